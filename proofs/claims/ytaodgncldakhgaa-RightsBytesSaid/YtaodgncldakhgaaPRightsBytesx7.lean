/- Texts of the kit's print or of our run of it, cut down to what this claim names (by a program of ours). -/
import Derived.Test.YtaodgncldakhgaaPRightsBytesx0
import Derived.Test.YtaodgncldakhgaaPRightsBytesx3
import Derived.Test.YtaodgncldakhgaaPRightsBytesx5
import Derived.Test.YtaodgncldakhgaaPRightsBytesx6
namespace Go.Proofs.Ytaodgncldakhgaa.PRightsBytes
open Go.RowKit Go.Proofs.YtaodgncldakhgaaW.PrintWords Go.Proofs.YtaodgncldakhgaaW.PrintLast Go.Proofs.YtaodgncldakhgaaW.PrintMore
attribute [local go_sem] max2_int min2_int max_two min_two max_three min_three max_four min_four
set_option linter.unusedVariables false
set_option linter.unusedSimpArgs false
def numsF (k : Nat) : Nat → List Int → Option (List Int × Bool)
  | 0, l => some ([], ((l.length : Int) == 0))
  | m + 1, l => (code_TakeNum.f k l).bind fun t => if t.2.2 = true then (if t.1 > 1125899906842624 then some ([], false) else (numsF k m t.2.1).bind fun r => some (wrap64 t.1 :: r.1, r.2)) else some ([], false)
theorem numsF.mono : ∀ (m : Nat) (l : List Int) (k : Nat), LeO (numsF k m l) (numsF (k + 1) m l) := by
  intro m
  induction m with
  | zero => intro l k; exact LeO.refl _
  | succ m ih =>
    intro l k
    rw [numsF, numsF]
    refine LeO.bind (code_TakeNum.mono _ _) (fun t => LeO.ite (LeO.ite (LeO.refl _) (LeO.bind (ih _ _) (fun _ => LeO.refl _))) (LeO.refl _))
set_option maxHeartbeats 8000000 in
set_option maxRecDepth 100000 in
theorem rights_numbers.calls3 (k : Nat) (W0 : World) (g gp g2 : Nat) (A0 : Option Addr) (c0 : Nat) (l0 : List Int) (z : Array Value) (r1 : List Int) (r2 : Bool) (w : World) (hr0 : Kd.C (Kd.int .u8) w A0 l0.length l0) (hc0 : l0.length ≤ c0)
    (hP : w.heap[gp]? = some (.cells #[.pointer (some ⟨g, 0, none⟩), .pointer (some ⟨g, 1, none⟩), .pointer (some ⟨g, 2, none⟩)] 62 (0, 0))) (hG : w.heap[g]? = some (.cells #[.int .i64 0, .int .i64 0, .int .i64 0] 23 (0, 0))) (h2 : w.heap[g2]? = some (.cells z 23 (0, 0))) (hgp : gp ≠ g) (hg2 : g2 ≠ g) (hW : Below W0.heap.size W0 w) (hg : W0.heap.size ≤ g) (h : numsF k 3 l0 = some (r1, r2)) :
    Calls Try.prog 53 #[.slice A0 l0.length c0, .slice (some ⟨gp, 0, none⟩) 3 3] w fun e w' => e = .returned (.bool r2) ∧ ∃ y0 y1 y2 : Int, w'.heap[g]? = some (.cells #[.int .i64 y0, .int .i64 y1, .int .i64 y2] 23 (0, 0)) ∧ (r2 = true → r1 = [y0, y1, y2]) ∧ w'.heap[g2]? = some (.cells z 23 (0, 0)) ∧ Below W0.heap.size W0 w' := by
  have HB := Aside0.mk hW
  have HG := Aside0.mk hG
  have HP := Aside0.mk hP
  have H2 := Aside0.mk h2
  have HC := Aside0.mk hr0
  clear hW hG hP h2 hr0
  go_enter Try.func53, Try.ntmps53
  go_wp2
  go_loopg [0, 12] 4 (fun kq v0 v12 w' => ∃ (j : Nat) (A : Option Addr) (c : Nat) (lb s1 : List Int) (x0 x1 x2 : Int), v0 = .slice A lb.length c ∧ v12 = .int .i64 (j : Int) ∧ Aside0 (kq + j = 4) ∧ Aside0 (j ≤ 3) ∧ Aside0 (numsF k (3 - j) lb = some (s1, r2)) ∧ Aside0 (r2 = true → r1 = [x0, x1, x2].take j ++ s1) ∧ Aside0 (Kd.C (Kd.int .u8) w' A lb.length lb) ∧ Aside0 (lb.length ≤ c) ∧ Aside0 (w'.heap[g]? = some (.cells #[.int .i64 x0, .int .i64 x1, .int .i64 x2] 23 (0, 0))) ∧ Aside0 (w'.heap[gp]? = some (.cells #[.pointer (some ⟨g, 0, none⟩), .pointer (some ⟨g, 1, none⟩), .pointer (some ⟨g, 2, none⟩)] 62 (0, 0))) ∧ Aside0 (w'.heap[g2]? = some (.cells z 23 (0, 0))) ∧ Aside0 (Below W0.heap.size W0 w'))
  case atStart => exact ⟨0, A0, c0, l0, r1, 0, 0, 0, rfl, rfl, ⟨rfl⟩, ⟨Nat.zero_le _⟩, ⟨h⟩, ⟨fun _ => rfl⟩, HC, ⟨hc0⟩, HG, HP, H2, HB⟩
  case round =>
    clear HC HG HP H2 HB h
    obtain ⟨j, A, c, lb, s1, x0, x1, x2, rfl, rfl, HK, HJ, HH, HR, HC, HL, HG, HP, H2, HB⟩ := hrel
    have hj := HJ.out
    have hj2 : j = 0 ∨ j = 1 ∨ j = 2 ∨ j = 3 := by omega
    clear hj
    rcases hj2 with rfl | rfl | rfl | rfl
    · have hcp := blk_cell HP.out 0
      simp only [List.getElem?_toArray, List.getElem?_cons_zero, List.getElem?_cons_succ] at hcp
      have H : ((code_TakeNum.f k lb).bind fun t => if t.2.2 = true then (if t.1 > 1125899906842624 then some ([], false) else (numsF k 2 t.2.1).bind fun r => some (wrap64 t.1 :: r.1, r.2)) else some ([], false)) = some (s1, r2) := HH.out
      obtain ⟨⟨t1, t2, t3⟩, A40, H⟩ := Option.bind_eq_some_iff.mp H
      have A4 := Aside0.mk A40
      clear A40 HH
      cases t3 with
      | false =>
        have H1 : some (([] : List Int), false) = some (s1, r2) := H
        simp only [Option.some.injEq, Prod.mk.injEq] at H1
        obtain ⟨rfl, rfl⟩ := H1
        clear H
        go_wp2_with (first | ((with_reducible refine gate_callee (f := 59) rfl ?_); refine goesL_ (some 18) rfl rfl Try.func59 (by kernel_rfl) rfl #[.slice A lb.length c] rfl (by (try simp only [List.map_toArray, List.map_cons, List.map_nil]); first | done | rfl) ?_; (with_reducible refine (code_TakeNum.calls k _ _ lb t1 t2 false _ ?side1 ?side2 A4.out).mono ?_); (case side1 => repeat (first | exact HC.out | (with_reducible refine Kd.C_alloc ?_ _) | (with_reducible refine Kd.C_drewN ?_ _) | (with_reducible refine Kd.C_drew ?_))); (case side2 => exact HL.out); rintro e w8 ⟨v1, rfl, ho0, hb⟩; refine ⟨_, rfl, ?_⟩; have m0 := Aside0.mk (below_step (by repeat (first | (with_reducible first | exact HB.out | apply below_alloc | apply pw_below_drewN | apply below_drew1) | exact HB.out)) hb); have m1 := Aside0.mk (blk_below (g := g) (o := (.cells #[.int .i64 x0, .int .i64 x1, .int .i64 x2] 23 (0, 0))) (by (with_reducible repeat (first | refine blk_drewN ?_ _ | refine blk_drew ?_ | refine blk_alloc ?_ _)); exact HG.out) hb); have m2 := Aside0.mk (blk_below (g := gp) (o := (.cells #[.pointer (some ⟨g, 0, none⟩), .pointer (some ⟨g, 1, none⟩), .pointer (some ⟨g, 2, none⟩)] 62 (0, 0))) (by (with_reducible repeat (first | refine blk_drewN ?_ _ | refine blk_drew ?_ | refine blk_alloc ?_ _)); exact HP.out) hb); have m3 := Aside0.mk (blk_below (g := g2) (o := .cells z 23 (0, 0)) (by (with_reducible repeat (first | refine blk_drewN ?_ _ | refine blk_drew ?_ | refine blk_alloc ?_ _)); exact H2.out) hb); have m4 := Aside0.mk ho0; clear HB HG HP H2 HC ho0 hb; have HB := m0; have HG := m1; have HP := m2; have H2 := m3; have HO := m4; clear m0 m1 m2 m3 m4; have hcg := blk_cell HG.out 0; have hfg := blk_frozen HG.out 0; simp only [List.getElem?_toArray, List.getElem?_cons_zero, List.getElem?_cons_succ] at hcg))
        go_ret
        exact ⟨by first | rfl | (simp <;> rfl), x0, x1, x2, (by (with_reducible repeat (first | refine blk_drewN ?_ _ | refine blk_drew ?_ | refine blk_alloc ?_ _)); exact HG.out), (fun h_ => absurd h_ (by decide)), (by (with_reducible repeat (first | refine blk_drewN ?_ _ | refine blk_drew ?_ | refine blk_alloc ?_ _)); exact H2.out), by repeat (first | (with_reducible first | exact HB.out | apply below_alloc | apply pw_below_drewN | apply below_drew1) | exact HB.out)⟩
      | true =>
        have H1 : (if t1 > 1125899906842624 then some (([] : List Int), false) else (numsF k 2 t2).bind fun r => some (wrap64 t1 :: r.1, r.2)) = some (s1, r2) := H
        clear H
        by_cases c6 : t1 > 1125899906842624
        · rw [if_pos c6] at H1
          have c6b0 : decide (1125899906842624 < t1) = true := decide_eq_true c6
          clear c6
          simp only [Option.some.injEq, Prod.mk.injEq] at H1
          obtain ⟨rfl, rfl⟩ := H1
          go_wp2_with (first | ((with_reducible refine gate_callee (f := 59) rfl ?_); refine goesL_ (some 18) rfl rfl Try.func59 (by kernel_rfl) rfl #[.slice A lb.length c] rfl (by (try simp only [List.map_toArray, List.map_cons, List.map_nil]); first | done | rfl) ?_; (with_reducible refine (code_TakeNum.calls k _ _ lb t1 t2 true _ ?side1 ?side2 A4.out).mono ?_); (case side1 => repeat (first | exact HC.out | (with_reducible refine Kd.C_alloc ?_ _) | (with_reducible refine Kd.C_drewN ?_ _) | (with_reducible refine Kd.C_drew ?_))); (case side2 => exact HL.out); rintro e w8 ⟨v1, rfl, ho0, hb⟩; refine ⟨_, rfl, ?_⟩; have m0 := Aside0.mk (below_step (by repeat (first | (with_reducible first | exact HB.out | apply below_alloc | apply pw_below_drewN | apply below_drew1) | exact HB.out)) hb); have m1 := Aside0.mk (blk_below (g := g) (o := (.cells #[.int .i64 x0, .int .i64 x1, .int .i64 x2] 23 (0, 0))) (by (with_reducible repeat (first | refine blk_drewN ?_ _ | refine blk_drew ?_ | refine blk_alloc ?_ _)); exact HG.out) hb); have m2 := Aside0.mk (blk_below (g := gp) (o := (.cells #[.pointer (some ⟨g, 0, none⟩), .pointer (some ⟨g, 1, none⟩), .pointer (some ⟨g, 2, none⟩)] 62 (0, 0))) (by (with_reducible repeat (first | refine blk_drewN ?_ _ | refine blk_drew ?_ | refine blk_alloc ?_ _)); exact HP.out) hb); have m3 := Aside0.mk (blk_below (g := g2) (o := .cells z 23 (0, 0)) (by (with_reducible repeat (first | refine blk_drewN ?_ _ | refine blk_drew ?_ | refine blk_alloc ?_ _)); exact H2.out) hb); have m4 := Aside0.mk ho0; clear HB HG HP H2 HC ho0 hb; have HB := m0; have HG := m1; have HP := m2; have H2 := m3; have HO := m4; clear m0 m1 m2 m3 m4; have hcg := blk_cell HG.out 0; have hfg := blk_frozen HG.out 0; simp only [List.getElem?_toArray, List.getElem?_cons_zero, List.getElem?_cons_succ] at hcg))
          go_ret
          exact ⟨by first | rfl | (simp <;> rfl), x0, x1, x2, (by (with_reducible repeat (first | refine blk_drewN ?_ _ | refine blk_drew ?_ | refine blk_alloc ?_ _)); exact HG.out), (fun h_ => absurd h_ (by decide)), (by (with_reducible repeat (first | refine blk_drewN ?_ _ | refine blk_drew ?_ | refine blk_alloc ?_ _)); exact H2.out), by repeat (first | (with_reducible first | exact HB.out | apply below_alloc | apply pw_below_drewN | apply below_drew1) | exact HB.out)⟩
        · rw [if_neg c6] at H1
          have c6b0 : decide (1125899906842624 < t1) = false := decide_eq_false c6
          clear c6
          obtain ⟨⟨s2, r3⟩, h3, H1⟩ := Option.bind_eq_some_iff.mp H1
          simp only [Option.some.injEq, Prod.mk.injEq] at H1
          obtain ⟨rfl, rfl⟩ := H1
          have H3 := Aside0.mk h3
          clear h3
          go_wp2_with (first | ((with_reducible refine gate_callee (f := 59) rfl ?_); refine goesL_ (some 18) rfl rfl Try.func59 (by kernel_rfl) rfl #[.slice A lb.length c] rfl (by (try simp only [List.map_toArray, List.map_cons, List.map_nil]); first | done | rfl) ?_; (with_reducible refine (code_TakeNum.calls k _ _ lb t1 t2 true _ ?side1 ?side2 A4.out).mono ?_); (case side1 => repeat (first | exact HC.out | (with_reducible refine Kd.C_alloc ?_ _) | (with_reducible refine Kd.C_drewN ?_ _) | (with_reducible refine Kd.C_drew ?_))); (case side2 => exact HL.out); rintro e w8 ⟨v1, rfl, ho0, hb⟩; refine ⟨_, rfl, ?_⟩; have m0 := Aside0.mk (below_step (by repeat (first | (with_reducible first | exact HB.out | apply below_alloc | apply pw_below_drewN | apply below_drew1) | exact HB.out)) hb); have m1 := Aside0.mk (blk_below (g := g) (o := (.cells #[.int .i64 x0, .int .i64 x1, .int .i64 x2] 23 (0, 0))) (by (with_reducible repeat (first | refine blk_drewN ?_ _ | refine blk_drew ?_ | refine blk_alloc ?_ _)); exact HG.out) hb); have m2 := Aside0.mk (blk_below (g := gp) (o := (.cells #[.pointer (some ⟨g, 0, none⟩), .pointer (some ⟨g, 1, none⟩), .pointer (some ⟨g, 2, none⟩)] 62 (0, 0))) (by (with_reducible repeat (first | refine blk_drewN ?_ _ | refine blk_drew ?_ | refine blk_alloc ?_ _)); exact HP.out) hb); have m3 := Aside0.mk (blk_below (g := g2) (o := .cells z 23 (0, 0)) (by (with_reducible repeat (first | refine blk_drewN ?_ _ | refine blk_drew ?_ | refine blk_alloc ?_ _)); exact H2.out) hb); have m4 := Aside0.mk ho0; clear HB HG HP H2 HC ho0 hb; have HB := m0; have HG := m1; have HP := m2; have H2 := m3; have HO := m4; clear m0 m1 m2 m3 m4; have hcg := blk_cell HG.out 0; have hfg := blk_frozen HG.out 0; simp only [List.getElem?_toArray, List.getElem?_cons_zero, List.getElem?_cons_succ] at hcg))
          obtain ⟨A9, c9, e9⟩ := Kd.R_slice HO.out
          subst e9
          go_roundg (3)
          case measure => have := HK.out; omega
          case rel => exact ⟨1, A9, c9, t2, s2, wrap64 t1, x1, x2, rfl, rfl, ⟨by have := HK.out; omega⟩, ⟨by decide⟩, ⟨H3.out⟩, ⟨fun h_ => HR.out h_⟩, ⟨(Kd.R_reads' (Kd.R_set (by (with_reducible repeat (first | apply Kd.R_alloc | apply Kd.R_drewN | apply Kd.R_drew)); exact HO.out) (by (with_reducible repeat (first | refine blk_drewN ?_ _ | refine blk_drew ?_ | refine blk_alloc ?_ _)); exact HG.out) (by first | decide | simp [Kd.int]) 0 _)).2.2⟩, ⟨(Kd.R_reads' HO.out).2.1⟩, ⟨blk_set (by (with_reducible repeat (first | refine blk_drewN ?_ _ | refine blk_drew ?_ | refine blk_alloc ?_ _)); exact HG.out) 0 _⟩, ⟨blk_far (by (with_reducible repeat (first | refine blk_drewN ?_ _ | refine blk_drew ?_ | refine blk_alloc ?_ _)); exact HP.out) hgp _⟩, ⟨blk_far (by (with_reducible repeat (first | refine blk_drewN ?_ _ | refine blk_drew ?_ | refine blk_alloc ?_ _)); exact H2.out) hg2 _⟩, ⟨below_set (by repeat (first | (with_reducible first | exact HB.out | apply below_alloc | apply pw_below_drewN | apply below_drew1) | exact HB.out)) hg⟩⟩
    · have hcp := blk_cell HP.out 1
      simp only [List.getElem?_toArray, List.getElem?_cons_zero, List.getElem?_cons_succ] at hcp
      have H : ((code_TakeNum.f k lb).bind fun t => if t.2.2 = true then (if t.1 > 1125899906842624 then some ([], false) else (numsF k 1 t.2.1).bind fun r => some (wrap64 t.1 :: r.1, r.2)) else some ([], false)) = some (s1, r2) := HH.out
      obtain ⟨⟨t1, t2, t3⟩, A40, H⟩ := Option.bind_eq_some_iff.mp H
      have A4 := Aside0.mk A40
      clear A40 HH
      cases t3 with
      | false =>
        have H1 : some (([] : List Int), false) = some (s1, r2) := H
        simp only [Option.some.injEq, Prod.mk.injEq] at H1
        obtain ⟨rfl, rfl⟩ := H1
        clear H
        go_wp2_with (first | ((with_reducible refine gate_callee (f := 59) rfl ?_); refine goesL_ (some 18) rfl rfl Try.func59 (by kernel_rfl) rfl #[.slice A lb.length c] rfl (by (try simp only [List.map_toArray, List.map_cons, List.map_nil]); first | done | rfl) ?_; (with_reducible refine (code_TakeNum.calls k _ _ lb t1 t2 false _ ?side1 ?side2 A4.out).mono ?_); (case side1 => repeat (first | exact HC.out | (with_reducible refine Kd.C_alloc ?_ _) | (with_reducible refine Kd.C_drewN ?_ _) | (with_reducible refine Kd.C_drew ?_))); (case side2 => exact HL.out); rintro e w8 ⟨v1, rfl, ho0, hb⟩; refine ⟨_, rfl, ?_⟩; have m0 := Aside0.mk (below_step (by repeat (first | (with_reducible first | exact HB.out | apply below_alloc | apply pw_below_drewN | apply below_drew1) | exact HB.out)) hb); have m1 := Aside0.mk (blk_below (g := g) (o := (.cells #[.int .i64 x0, .int .i64 x1, .int .i64 x2] 23 (0, 0))) (by (with_reducible repeat (first | refine blk_drewN ?_ _ | refine blk_drew ?_ | refine blk_alloc ?_ _)); exact HG.out) hb); have m2 := Aside0.mk (blk_below (g := gp) (o := (.cells #[.pointer (some ⟨g, 0, none⟩), .pointer (some ⟨g, 1, none⟩), .pointer (some ⟨g, 2, none⟩)] 62 (0, 0))) (by (with_reducible repeat (first | refine blk_drewN ?_ _ | refine blk_drew ?_ | refine blk_alloc ?_ _)); exact HP.out) hb); have m3 := Aside0.mk (blk_below (g := g2) (o := .cells z 23 (0, 0)) (by (with_reducible repeat (first | refine blk_drewN ?_ _ | refine blk_drew ?_ | refine blk_alloc ?_ _)); exact H2.out) hb); have m4 := Aside0.mk ho0; clear HB HG HP H2 HC ho0 hb; have HB := m0; have HG := m1; have HP := m2; have H2 := m3; have HO := m4; clear m0 m1 m2 m3 m4; have hcg := blk_cell HG.out 1; have hfg := blk_frozen HG.out 1; simp only [List.getElem?_toArray, List.getElem?_cons_zero, List.getElem?_cons_succ] at hcg))
        go_ret
        exact ⟨by first | rfl | (simp <;> rfl), x0, x1, x2, (by (with_reducible repeat (first | refine blk_drewN ?_ _ | refine blk_drew ?_ | refine blk_alloc ?_ _)); exact HG.out), (fun h_ => absurd h_ (by decide)), (by (with_reducible repeat (first | refine blk_drewN ?_ _ | refine blk_drew ?_ | refine blk_alloc ?_ _)); exact H2.out), by repeat (first | (with_reducible first | exact HB.out | apply below_alloc | apply pw_below_drewN | apply below_drew1) | exact HB.out)⟩
      | true =>
        have H1 : (if t1 > 1125899906842624 then some (([] : List Int), false) else (numsF k 1 t2).bind fun r => some (wrap64 t1 :: r.1, r.2)) = some (s1, r2) := H
        clear H
        by_cases c6 : t1 > 1125899906842624
        · rw [if_pos c6] at H1
          have c6b0 : decide (1125899906842624 < t1) = true := decide_eq_true c6
          clear c6
          simp only [Option.some.injEq, Prod.mk.injEq] at H1
          obtain ⟨rfl, rfl⟩ := H1
          go_wp2_with (first | ((with_reducible refine gate_callee (f := 59) rfl ?_); refine goesL_ (some 18) rfl rfl Try.func59 (by kernel_rfl) rfl #[.slice A lb.length c] rfl (by (try simp only [List.map_toArray, List.map_cons, List.map_nil]); first | done | rfl) ?_; (with_reducible refine (code_TakeNum.calls k _ _ lb t1 t2 true _ ?side1 ?side2 A4.out).mono ?_); (case side1 => repeat (first | exact HC.out | (with_reducible refine Kd.C_alloc ?_ _) | (with_reducible refine Kd.C_drewN ?_ _) | (with_reducible refine Kd.C_drew ?_))); (case side2 => exact HL.out); rintro e w8 ⟨v1, rfl, ho0, hb⟩; refine ⟨_, rfl, ?_⟩; have m0 := Aside0.mk (below_step (by repeat (first | (with_reducible first | exact HB.out | apply below_alloc | apply pw_below_drewN | apply below_drew1) | exact HB.out)) hb); have m1 := Aside0.mk (blk_below (g := g) (o := (.cells #[.int .i64 x0, .int .i64 x1, .int .i64 x2] 23 (0, 0))) (by (with_reducible repeat (first | refine blk_drewN ?_ _ | refine blk_drew ?_ | refine blk_alloc ?_ _)); exact HG.out) hb); have m2 := Aside0.mk (blk_below (g := gp) (o := (.cells #[.pointer (some ⟨g, 0, none⟩), .pointer (some ⟨g, 1, none⟩), .pointer (some ⟨g, 2, none⟩)] 62 (0, 0))) (by (with_reducible repeat (first | refine blk_drewN ?_ _ | refine blk_drew ?_ | refine blk_alloc ?_ _)); exact HP.out) hb); have m3 := Aside0.mk (blk_below (g := g2) (o := .cells z 23 (0, 0)) (by (with_reducible repeat (first | refine blk_drewN ?_ _ | refine blk_drew ?_ | refine blk_alloc ?_ _)); exact H2.out) hb); have m4 := Aside0.mk ho0; clear HB HG HP H2 HC ho0 hb; have HB := m0; have HG := m1; have HP := m2; have H2 := m3; have HO := m4; clear m0 m1 m2 m3 m4; have hcg := blk_cell HG.out 1; have hfg := blk_frozen HG.out 1; simp only [List.getElem?_toArray, List.getElem?_cons_zero, List.getElem?_cons_succ] at hcg))
          go_ret
          exact ⟨by first | rfl | (simp <;> rfl), x0, x1, x2, (by (with_reducible repeat (first | refine blk_drewN ?_ _ | refine blk_drew ?_ | refine blk_alloc ?_ _)); exact HG.out), (fun h_ => absurd h_ (by decide)), (by (with_reducible repeat (first | refine blk_drewN ?_ _ | refine blk_drew ?_ | refine blk_alloc ?_ _)); exact H2.out), by repeat (first | (with_reducible first | exact HB.out | apply below_alloc | apply pw_below_drewN | apply below_drew1) | exact HB.out)⟩
        · rw [if_neg c6] at H1
          have c6b0 : decide (1125899906842624 < t1) = false := decide_eq_false c6
          clear c6
          obtain ⟨⟨s2, r3⟩, h3, H1⟩ := Option.bind_eq_some_iff.mp H1
          simp only [Option.some.injEq, Prod.mk.injEq] at H1
          obtain ⟨rfl, rfl⟩ := H1
          have H3 := Aside0.mk h3
          clear h3
          go_wp2_with (first | ((with_reducible refine gate_callee (f := 59) rfl ?_); refine goesL_ (some 18) rfl rfl Try.func59 (by kernel_rfl) rfl #[.slice A lb.length c] rfl (by (try simp only [List.map_toArray, List.map_cons, List.map_nil]); first | done | rfl) ?_; (with_reducible refine (code_TakeNum.calls k _ _ lb t1 t2 true _ ?side1 ?side2 A4.out).mono ?_); (case side1 => repeat (first | exact HC.out | (with_reducible refine Kd.C_alloc ?_ _) | (with_reducible refine Kd.C_drewN ?_ _) | (with_reducible refine Kd.C_drew ?_))); (case side2 => exact HL.out); rintro e w8 ⟨v1, rfl, ho0, hb⟩; refine ⟨_, rfl, ?_⟩; have m0 := Aside0.mk (below_step (by repeat (first | (with_reducible first | exact HB.out | apply below_alloc | apply pw_below_drewN | apply below_drew1) | exact HB.out)) hb); have m1 := Aside0.mk (blk_below (g := g) (o := (.cells #[.int .i64 x0, .int .i64 x1, .int .i64 x2] 23 (0, 0))) (by (with_reducible repeat (first | refine blk_drewN ?_ _ | refine blk_drew ?_ | refine blk_alloc ?_ _)); exact HG.out) hb); have m2 := Aside0.mk (blk_below (g := gp) (o := (.cells #[.pointer (some ⟨g, 0, none⟩), .pointer (some ⟨g, 1, none⟩), .pointer (some ⟨g, 2, none⟩)] 62 (0, 0))) (by (with_reducible repeat (first | refine blk_drewN ?_ _ | refine blk_drew ?_ | refine blk_alloc ?_ _)); exact HP.out) hb); have m3 := Aside0.mk (blk_below (g := g2) (o := .cells z 23 (0, 0)) (by (with_reducible repeat (first | refine blk_drewN ?_ _ | refine blk_drew ?_ | refine blk_alloc ?_ _)); exact H2.out) hb); have m4 := Aside0.mk ho0; clear HB HG HP H2 HC ho0 hb; have HB := m0; have HG := m1; have HP := m2; have H2 := m3; have HO := m4; clear m0 m1 m2 m3 m4; have hcg := blk_cell HG.out 1; have hfg := blk_frozen HG.out 1; simp only [List.getElem?_toArray, List.getElem?_cons_zero, List.getElem?_cons_succ] at hcg))
          obtain ⟨A9, c9, e9⟩ := Kd.R_slice HO.out
          subst e9
          go_roundg (2)
          case measure => have := HK.out; omega
          case rel => exact ⟨2, A9, c9, t2, s2, x0, wrap64 t1, x2, rfl, rfl, ⟨by have := HK.out; omega⟩, ⟨by decide⟩, ⟨H3.out⟩, ⟨fun h_ => HR.out h_⟩, ⟨(Kd.R_reads' (Kd.R_set (by (with_reducible repeat (first | apply Kd.R_alloc | apply Kd.R_drewN | apply Kd.R_drew)); exact HO.out) (by (with_reducible repeat (first | refine blk_drewN ?_ _ | refine blk_drew ?_ | refine blk_alloc ?_ _)); exact HG.out) (by first | decide | simp [Kd.int]) 1 _)).2.2⟩, ⟨(Kd.R_reads' HO.out).2.1⟩, ⟨blk_set (by (with_reducible repeat (first | refine blk_drewN ?_ _ | refine blk_drew ?_ | refine blk_alloc ?_ _)); exact HG.out) 1 _⟩, ⟨blk_far (by (with_reducible repeat (first | refine blk_drewN ?_ _ | refine blk_drew ?_ | refine blk_alloc ?_ _)); exact HP.out) hgp _⟩, ⟨blk_far (by (with_reducible repeat (first | refine blk_drewN ?_ _ | refine blk_drew ?_ | refine blk_alloc ?_ _)); exact H2.out) hg2 _⟩, ⟨below_set (by repeat (first | (with_reducible first | exact HB.out | apply below_alloc | apply pw_below_drewN | apply below_drew1) | exact HB.out)) hg⟩⟩
    · have hcp := blk_cell HP.out 2
      simp only [List.getElem?_toArray, List.getElem?_cons_zero, List.getElem?_cons_succ] at hcp
      have H : ((code_TakeNum.f k lb).bind fun t => if t.2.2 = true then (if t.1 > 1125899906842624 then some ([], false) else (numsF k 0 t.2.1).bind fun r => some (wrap64 t.1 :: r.1, r.2)) else some ([], false)) = some (s1, r2) := HH.out
      obtain ⟨⟨t1, t2, t3⟩, A40, H⟩ := Option.bind_eq_some_iff.mp H
      have A4 := Aside0.mk A40
      clear A40 HH
      cases t3 with
      | false =>
        have H1 : some (([] : List Int), false) = some (s1, r2) := H
        simp only [Option.some.injEq, Prod.mk.injEq] at H1
        obtain ⟨rfl, rfl⟩ := H1
        clear H
        go_wp2_with (first | ((with_reducible refine gate_callee (f := 59) rfl ?_); refine goesL_ (some 18) rfl rfl Try.func59 (by kernel_rfl) rfl #[.slice A lb.length c] rfl (by (try simp only [List.map_toArray, List.map_cons, List.map_nil]); first | done | rfl) ?_; (with_reducible refine (code_TakeNum.calls k _ _ lb t1 t2 false _ ?side1 ?side2 A4.out).mono ?_); (case side1 => repeat (first | exact HC.out | (with_reducible refine Kd.C_alloc ?_ _) | (with_reducible refine Kd.C_drewN ?_ _) | (with_reducible refine Kd.C_drew ?_))); (case side2 => exact HL.out); rintro e w8 ⟨v1, rfl, ho0, hb⟩; refine ⟨_, rfl, ?_⟩; have m0 := Aside0.mk (below_step (by repeat (first | (with_reducible first | exact HB.out | apply below_alloc | apply pw_below_drewN | apply below_drew1) | exact HB.out)) hb); have m1 := Aside0.mk (blk_below (g := g) (o := (.cells #[.int .i64 x0, .int .i64 x1, .int .i64 x2] 23 (0, 0))) (by (with_reducible repeat (first | refine blk_drewN ?_ _ | refine blk_drew ?_ | refine blk_alloc ?_ _)); exact HG.out) hb); have m2 := Aside0.mk (blk_below (g := gp) (o := (.cells #[.pointer (some ⟨g, 0, none⟩), .pointer (some ⟨g, 1, none⟩), .pointer (some ⟨g, 2, none⟩)] 62 (0, 0))) (by (with_reducible repeat (first | refine blk_drewN ?_ _ | refine blk_drew ?_ | refine blk_alloc ?_ _)); exact HP.out) hb); have m3 := Aside0.mk (blk_below (g := g2) (o := .cells z 23 (0, 0)) (by (with_reducible repeat (first | refine blk_drewN ?_ _ | refine blk_drew ?_ | refine blk_alloc ?_ _)); exact H2.out) hb); have m4 := Aside0.mk ho0; clear HB HG HP H2 HC ho0 hb; have HB := m0; have HG := m1; have HP := m2; have H2 := m3; have HO := m4; clear m0 m1 m2 m3 m4; have hcg := blk_cell HG.out 2; have hfg := blk_frozen HG.out 2; simp only [List.getElem?_toArray, List.getElem?_cons_zero, List.getElem?_cons_succ] at hcg))
        go_ret
        exact ⟨by first | rfl | (simp <;> rfl), x0, x1, x2, (by (with_reducible repeat (first | refine blk_drewN ?_ _ | refine blk_drew ?_ | refine blk_alloc ?_ _)); exact HG.out), (fun h_ => absurd h_ (by decide)), (by (with_reducible repeat (first | refine blk_drewN ?_ _ | refine blk_drew ?_ | refine blk_alloc ?_ _)); exact H2.out), by repeat (first | (with_reducible first | exact HB.out | apply below_alloc | apply pw_below_drewN | apply below_drew1) | exact HB.out)⟩
      | true =>
        have H1 : (if t1 > 1125899906842624 then some (([] : List Int), false) else (numsF k 0 t2).bind fun r => some (wrap64 t1 :: r.1, r.2)) = some (s1, r2) := H
        clear H
        by_cases c6 : t1 > 1125899906842624
        · rw [if_pos c6] at H1
          have c6b0 : decide (1125899906842624 < t1) = true := decide_eq_true c6
          clear c6
          simp only [Option.some.injEq, Prod.mk.injEq] at H1
          obtain ⟨rfl, rfl⟩ := H1
          go_wp2_with (first | ((with_reducible refine gate_callee (f := 59) rfl ?_); refine goesL_ (some 18) rfl rfl Try.func59 (by kernel_rfl) rfl #[.slice A lb.length c] rfl (by (try simp only [List.map_toArray, List.map_cons, List.map_nil]); first | done | rfl) ?_; (with_reducible refine (code_TakeNum.calls k _ _ lb t1 t2 true _ ?side1 ?side2 A4.out).mono ?_); (case side1 => repeat (first | exact HC.out | (with_reducible refine Kd.C_alloc ?_ _) | (with_reducible refine Kd.C_drewN ?_ _) | (with_reducible refine Kd.C_drew ?_))); (case side2 => exact HL.out); rintro e w8 ⟨v1, rfl, ho0, hb⟩; refine ⟨_, rfl, ?_⟩; have m0 := Aside0.mk (below_step (by repeat (first | (with_reducible first | exact HB.out | apply below_alloc | apply pw_below_drewN | apply below_drew1) | exact HB.out)) hb); have m1 := Aside0.mk (blk_below (g := g) (o := (.cells #[.int .i64 x0, .int .i64 x1, .int .i64 x2] 23 (0, 0))) (by (with_reducible repeat (first | refine blk_drewN ?_ _ | refine blk_drew ?_ | refine blk_alloc ?_ _)); exact HG.out) hb); have m2 := Aside0.mk (blk_below (g := gp) (o := (.cells #[.pointer (some ⟨g, 0, none⟩), .pointer (some ⟨g, 1, none⟩), .pointer (some ⟨g, 2, none⟩)] 62 (0, 0))) (by (with_reducible repeat (first | refine blk_drewN ?_ _ | refine blk_drew ?_ | refine blk_alloc ?_ _)); exact HP.out) hb); have m3 := Aside0.mk (blk_below (g := g2) (o := .cells z 23 (0, 0)) (by (with_reducible repeat (first | refine blk_drewN ?_ _ | refine blk_drew ?_ | refine blk_alloc ?_ _)); exact H2.out) hb); have m4 := Aside0.mk ho0; clear HB HG HP H2 HC ho0 hb; have HB := m0; have HG := m1; have HP := m2; have H2 := m3; have HO := m4; clear m0 m1 m2 m3 m4; have hcg := blk_cell HG.out 2; have hfg := blk_frozen HG.out 2; simp only [List.getElem?_toArray, List.getElem?_cons_zero, List.getElem?_cons_succ] at hcg))
          go_ret
          exact ⟨by first | rfl | (simp <;> rfl), x0, x1, x2, (by (with_reducible repeat (first | refine blk_drewN ?_ _ | refine blk_drew ?_ | refine blk_alloc ?_ _)); exact HG.out), (fun h_ => absurd h_ (by decide)), (by (with_reducible repeat (first | refine blk_drewN ?_ _ | refine blk_drew ?_ | refine blk_alloc ?_ _)); exact H2.out), by repeat (first | (with_reducible first | exact HB.out | apply below_alloc | apply pw_below_drewN | apply below_drew1) | exact HB.out)⟩
        · rw [if_neg c6] at H1
          have c6b0 : decide (1125899906842624 < t1) = false := decide_eq_false c6
          clear c6
          obtain ⟨⟨s2, r3⟩, h3, H1⟩ := Option.bind_eq_some_iff.mp H1
          simp only [Option.some.injEq, Prod.mk.injEq] at H1
          obtain ⟨rfl, rfl⟩ := H1
          have H3 := Aside0.mk h3
          clear h3
          go_wp2_with (first | ((with_reducible refine gate_callee (f := 59) rfl ?_); refine goesL_ (some 18) rfl rfl Try.func59 (by kernel_rfl) rfl #[.slice A lb.length c] rfl (by (try simp only [List.map_toArray, List.map_cons, List.map_nil]); first | done | rfl) ?_; (with_reducible refine (code_TakeNum.calls k _ _ lb t1 t2 true _ ?side1 ?side2 A4.out).mono ?_); (case side1 => repeat (first | exact HC.out | (with_reducible refine Kd.C_alloc ?_ _) | (with_reducible refine Kd.C_drewN ?_ _) | (with_reducible refine Kd.C_drew ?_))); (case side2 => exact HL.out); rintro e w8 ⟨v1, rfl, ho0, hb⟩; refine ⟨_, rfl, ?_⟩; have m0 := Aside0.mk (below_step (by repeat (first | (with_reducible first | exact HB.out | apply below_alloc | apply pw_below_drewN | apply below_drew1) | exact HB.out)) hb); have m1 := Aside0.mk (blk_below (g := g) (o := (.cells #[.int .i64 x0, .int .i64 x1, .int .i64 x2] 23 (0, 0))) (by (with_reducible repeat (first | refine blk_drewN ?_ _ | refine blk_drew ?_ | refine blk_alloc ?_ _)); exact HG.out) hb); have m2 := Aside0.mk (blk_below (g := gp) (o := (.cells #[.pointer (some ⟨g, 0, none⟩), .pointer (some ⟨g, 1, none⟩), .pointer (some ⟨g, 2, none⟩)] 62 (0, 0))) (by (with_reducible repeat (first | refine blk_drewN ?_ _ | refine blk_drew ?_ | refine blk_alloc ?_ _)); exact HP.out) hb); have m3 := Aside0.mk (blk_below (g := g2) (o := .cells z 23 (0, 0)) (by (with_reducible repeat (first | refine blk_drewN ?_ _ | refine blk_drew ?_ | refine blk_alloc ?_ _)); exact H2.out) hb); have m4 := Aside0.mk ho0; clear HB HG HP H2 HC ho0 hb; have HB := m0; have HG := m1; have HP := m2; have H2 := m3; have HO := m4; clear m0 m1 m2 m3 m4; have hcg := blk_cell HG.out 2; have hfg := blk_frozen HG.out 2; simp only [List.getElem?_toArray, List.getElem?_cons_zero, List.getElem?_cons_succ] at hcg))
          obtain ⟨A9, c9, e9⟩ := Kd.R_slice HO.out
          subst e9
          go_roundg (1)
          case measure => have := HK.out; omega
          case rel => exact ⟨3, A9, c9, t2, s2, x0, x1, wrap64 t1, rfl, rfl, ⟨by have := HK.out; omega⟩, ⟨by decide⟩, ⟨H3.out⟩, ⟨fun h_ => HR.out h_⟩, ⟨(Kd.R_reads' (Kd.R_set (by (with_reducible repeat (first | apply Kd.R_alloc | apply Kd.R_drewN | apply Kd.R_drew)); exact HO.out) (by (with_reducible repeat (first | refine blk_drewN ?_ _ | refine blk_drew ?_ | refine blk_alloc ?_ _)); exact HG.out) (by first | decide | simp [Kd.int]) 2 _)).2.2⟩, ⟨(Kd.R_reads' HO.out).2.1⟩, ⟨blk_set (by (with_reducible repeat (first | refine blk_drewN ?_ _ | refine blk_drew ?_ | refine blk_alloc ?_ _)); exact HG.out) 2 _⟩, ⟨blk_far (by (with_reducible repeat (first | refine blk_drewN ?_ _ | refine blk_drew ?_ | refine blk_alloc ?_ _)); exact HP.out) hgp _⟩, ⟨blk_far (by (with_reducible repeat (first | refine blk_drewN ?_ _ | refine blk_drew ?_ | refine blk_alloc ?_ _)); exact H2.out) hg2 _⟩, ⟨below_set (by repeat (first | (with_reducible first | exact HB.out | apply below_alloc | apply pw_below_drewN | apply below_drew1) | exact HB.out)) hg⟩⟩
    · have H : some (([] : List Int), ((lb.length : Int) == 0)) = some (s1, r2) := HH.out
      simp only [Option.some.injEq, Prod.mk.injEq] at H
      obtain ⟨rfl, rfl⟩ := H
      go_wp2
      go_ret
      exact ⟨by first | rfl | (simp <;> rfl), x0, x1, x2, (by (with_reducible repeat (first | refine blk_drewN ?_ _ | refine blk_drew ?_ | refine blk_alloc ?_ _)); exact HG.out), (fun h_ => HR.out h_), (by (with_reducible repeat (first | refine blk_drewN ?_ _ | refine blk_drew ?_ | refine blk_alloc ?_ _)); exact H2.out), by repeat (first | (with_reducible first | exact HB.out | apply below_alloc | apply pw_below_drewN | apply below_drew1) | exact HB.out)⟩
set_option maxHeartbeats 8000000 in
set_option maxRecDepth 100000 in
theorem racc_A (k : Nat) (A0 : Option Addr) (c0 : Nat) (l0 : List Int) (s : List Int) (h : numsF k 3 l0 = some (s, false)) (w : World) (hr0 : Kd.C (Kd.int .u8) w A0 l0.length l0) (hc0 : l0.length ≤ c0) :
    Calls Try.prog 39 #[.slice A0 l0.length c0] w fun e w' => e = .returned (.tuple #[.agg #[.int .i64 0, .int .i64 0, .int .i64 0], .int .i64 206]) ∧ Below w.heap.size w w' := by
  have hu23 := Try.underlying23
  have hu69 := Try.underlying69
  have HB := Aside0.mk (Below.refl w.heap.size w)
  have HC := Aside0.mk hr0
  clear hr0
  go_enter Try.func39, Try.ntmps39
  go_wp2_with (first | ((with_reducible refine gate_dst (N := 2) rfl ?_); refine box_event ?hg (N := 2) ?hd (cs := #[.int .i64 0, .int .i64 0, .int .i64 0]) (t := 23) ?hr ?_; (case hd => rfl); (case hg => rfl); (case hr => first | (go_simp; done) | (go_simp; rfl)); intro g2 hg w1 hbox hb; have m0 := Aside0.mk (below_step (by repeat (first | (with_reducible first | exact HB.out | apply below_alloc | apply pw_below_drewN | apply below_drew1) | exact HB.out)) hb); have m1 := Aside0.mk hbox; have m2 := Aside0.mk ((by rw [hg]; exact (below_size (by repeat (first | (with_reducible first | exact HB.out | apply below_alloc | apply pw_below_drewN | apply below_drew1) | exact HB.out))) : w.heap.size ≤ g2)); have m3 := Aside0.mk (Kd.C_below (by repeat (first | exact HC.out | (with_reducible refine Kd.C_alloc ?_ _) | (with_reducible refine Kd.C_drewN ?_ _) | (with_reducible refine Kd.C_drew ?_))) hb); clear HB HC; have HB := m0; have B2 := m1; have G2 := m2; have HC := m3; clear m0 m1 m2 m3; clear hb hbox hg) | ((with_reducible refine gate_dst (N := 4) rfl ?_); refine box_event ?hg (N := 4) ?hd (cs := #[.int .i64 0, .int .i64 0, .int .i64 0]) (t := 23) ?hr ?_; (case hd => rfl); (case hg => rfl); (case hr => first | (go_simp; done) | (go_simp; rfl)); intro g hg w2 hbox hb; have m0 := Aside0.mk (below_step (by repeat (first | (with_reducible first | exact HB.out | apply below_alloc | apply pw_below_drewN | apply below_drew1 | refine below_set ?_ G2.out) | exact HB.out)) hb); have m1 := Aside0.mk hbox; have m2 := Aside0.mk ((by rw [hg]; exact (below_size (by repeat (first | (with_reducible first | exact HB.out | apply below_alloc | apply pw_below_drewN | apply below_drew1 | refine below_set ?_ G2.out) | exact HB.out))) : w.heap.size ≤ g)); have m3 := Aside0.mk (Kd.C_below (by repeat (first | exact HC.out | (with_reducible refine Kd.C_alloc ?_ _) | (with_reducible refine Kd.C_drewN ?_ _) | (with_reducible refine Kd.C_drew ?_))) hb); have m4 := Aside0.mk (blk_below (g := g2) (o := (.cells #[.int .i64 0, .int .i64 0, .int .i64 0] 23 (0, 0))) (by (with_reducible repeat (first | refine blk_drewN ?_ _ | refine blk_drew ?_ | refine blk_alloc ?_ _)); exact B2.out) hb); have m5 := Aside0.mk ((by rw [hg]; exact Nat.ne_of_lt (blk_lt (g := g2) (o := (.cells #[.int .i64 0, .int .i64 0, .int .i64 0] 23 (0, 0))) (by (with_reducible repeat (first | refine blk_drewN ?_ _ | refine blk_drew ?_ | refine blk_alloc ?_ _)); exact B2.out)) : g2 ≠ g)); clear HB HC B2; have HB := m0; have BG := m1; have GG := m2; have HC := m3; have B2 := m4; have N2 := m5; clear m0 m1 m2 m3 m4 m5; clear hb hbox hg))
  refine (rights_numbers.calls3 k w g w2.heap.size g2 A0 c0 l0 #[.int .i64 0, .int .i64 0, .int .i64 0] s false _ (Kd.C_alloc HC.out _) hc0 (blk_new _ _) (blk_alloc BG.out _) (blk_alloc B2.out _) (Nat.ne_of_gt (blk_lt BG.out)) N2.out (below_alloc HB.out _) GG.out h).mono ?_
  rintro e w5 ⟨rfl, u0, u1, u2, hG5, hr5, h25, hW5⟩
  clear HB HC BG B2
  have HB := Aside0.mk hW5
  have BG := Aside0.mk hG5
  have B2 := Aside0.mk h25
  clear hW5 hG5 h25 hr5
  have hn1 := N2.out
  have hn2 := Ne.symm N2.out
  have hcBG0 := blk_cell BG.out 0
  have hfBG0 := blk_frozen BG.out 0
  have hcBG1 := blk_cell BG.out 1
  have hfBG1 := blk_frozen BG.out 1
  have hcBG2 := blk_cell BG.out 2
  have hfBG2 := blk_frozen BG.out 2
  have hcB20 := blk_cell B2.out 0
  have hfB20 := blk_frozen B2.out 0
  have hcB21 := blk_cell B2.out 1
  have hfB21 := blk_frozen B2.out 1
  have hcB22 := blk_cell B2.out 2
  have hfB22 := blk_frozen B2.out 2
  simp only [List.getElem?_toArray, List.getElem?_cons_zero, List.getElem?_cons_succ] at hcBG0 hcBG1 hcBG2 hcB20 hcB21 hcB22
  dsimp only
  go_wp2
  refine bodyPost_ret (results_ct rfl _ _ g2 23 #[.int .i64 0, .int .i64 0, .int .i64 0] (0, 0) _ rfl (by (with_reducible repeat (first | refine blk_drewN ?_ _ | refine blk_drew ?_ | refine blk_alloc ?_ _)); refine blk_put (cs := #[.int .i64 0, .int .i64 0, .int .i64 0]) ?_ 2 _ rfl; (with_reducible repeat (first | refine blk_drewN ?_ _ | refine blk_drew ?_ | refine blk_alloc ?_ _)); refine blk_put (cs := #[.int .i64 0, .int .i64 0, .int .i64 0]) ?_ 1 _ rfl; (with_reducible repeat (first | refine blk_drewN ?_ _ | refine blk_drew ?_ | refine blk_alloc ?_ _)); refine blk_put (cs := #[.int .i64 0, .int .i64 0, .int .i64 0]) ?_ 0 _ rfl; (with_reducible repeat (first | refine blk_drewN ?_ _ | refine blk_drew ?_ | refine blk_alloc ?_ _)); exact B2.out) Try.underlying23 rfl (by kernel_rfl)) rfl ?_
  exact ⟨by first | rfl | (simp <;> rfl), by repeat (first | (with_reducible first | exact HB.out | apply below_alloc | apply pw_below_drewN | apply below_drew1 | refine below_set ?_ G2.out | refine below_set ?_ GG.out) | exact HB.out)⟩
set_option maxHeartbeats 8000000 in
set_option maxRecDepth 100000 in
theorem racc_B (k : Nat) (A0 : Option Addr) (c0 : Nat) (l0 : List Int) (y0 y1 y2 : Int) (h : numsF k 3 l0 = some ([y0, y1, y2], true)) (hs : rights_sound.f y0 y1 y2 = some false) (w : World) (hr0 : Kd.C (Kd.int .u8) w A0 l0.length l0) (hc0 : l0.length ≤ c0) :
    Calls Try.prog 39 #[.slice A0 l0.length c0] w fun e w' => e = .returned (.tuple #[.agg #[.int .i64 0, .int .i64 0, .int .i64 0], .int .i64 206]) ∧ Below w.heap.size w w' := by
  have hu23 := Try.underlying23
  have hu69 := Try.underlying69
  have HB := Aside0.mk (Below.refl w.heap.size w)
  have HC := Aside0.mk hr0
  clear hr0
  go_enter Try.func39, Try.ntmps39
  go_wp2_with (first | ((with_reducible refine gate_dst (N := 2) rfl ?_); refine box_event ?hg (N := 2) ?hd (cs := #[.int .i64 0, .int .i64 0, .int .i64 0]) (t := 23) ?hr ?_; (case hd => rfl); (case hg => rfl); (case hr => first | (go_simp; done) | (go_simp; rfl)); intro g2 hg w1 hbox hb; have m0 := Aside0.mk (below_step (by repeat (first | (with_reducible first | exact HB.out | apply below_alloc | apply pw_below_drewN | apply below_drew1) | exact HB.out)) hb); have m1 := Aside0.mk hbox; have m2 := Aside0.mk ((by rw [hg]; exact (below_size (by repeat (first | (with_reducible first | exact HB.out | apply below_alloc | apply pw_below_drewN | apply below_drew1) | exact HB.out))) : w.heap.size ≤ g2)); have m3 := Aside0.mk (Kd.C_below (by repeat (first | exact HC.out | (with_reducible refine Kd.C_alloc ?_ _) | (with_reducible refine Kd.C_drewN ?_ _) | (with_reducible refine Kd.C_drew ?_))) hb); clear HB HC; have HB := m0; have B2 := m1; have G2 := m2; have HC := m3; clear m0 m1 m2 m3; clear hb hbox hg) | ((with_reducible refine gate_dst (N := 4) rfl ?_); refine box_event ?hg (N := 4) ?hd (cs := #[.int .i64 0, .int .i64 0, .int .i64 0]) (t := 23) ?hr ?_; (case hd => rfl); (case hg => rfl); (case hr => first | (go_simp; done) | (go_simp; rfl)); intro g hg w2 hbox hb; have m0 := Aside0.mk (below_step (by repeat (first | (with_reducible first | exact HB.out | apply below_alloc | apply pw_below_drewN | apply below_drew1 | refine below_set ?_ G2.out) | exact HB.out)) hb); have m1 := Aside0.mk hbox; have m2 := Aside0.mk ((by rw [hg]; exact (below_size (by repeat (first | (with_reducible first | exact HB.out | apply below_alloc | apply pw_below_drewN | apply below_drew1 | refine below_set ?_ G2.out) | exact HB.out))) : w.heap.size ≤ g)); have m3 := Aside0.mk (Kd.C_below (by repeat (first | exact HC.out | (with_reducible refine Kd.C_alloc ?_ _) | (with_reducible refine Kd.C_drewN ?_ _) | (with_reducible refine Kd.C_drew ?_))) hb); have m4 := Aside0.mk (blk_below (g := g2) (o := (.cells #[.int .i64 0, .int .i64 0, .int .i64 0] 23 (0, 0))) (by (with_reducible repeat (first | refine blk_drewN ?_ _ | refine blk_drew ?_ | refine blk_alloc ?_ _)); exact B2.out) hb); have m5 := Aside0.mk ((by rw [hg]; exact Nat.ne_of_lt (blk_lt (g := g2) (o := (.cells #[.int .i64 0, .int .i64 0, .int .i64 0] 23 (0, 0))) (by (with_reducible repeat (first | refine blk_drewN ?_ _ | refine blk_drew ?_ | refine blk_alloc ?_ _)); exact B2.out)) : g2 ≠ g)); clear HB HC B2; have HB := m0; have BG := m1; have GG := m2; have HC := m3; have B2 := m4; have N2 := m5; clear m0 m1 m2 m3 m4 m5; clear hb hbox hg))
  refine (rights_numbers.calls3 k w g w2.heap.size g2 A0 c0 l0 #[.int .i64 0, .int .i64 0, .int .i64 0] [y0, y1, y2] true _ (Kd.C_alloc HC.out _) hc0 (blk_new _ _) (blk_alloc BG.out _) (blk_alloc B2.out _) (Nat.ne_of_gt (blk_lt BG.out)) N2.out (below_alloc HB.out _) GG.out h).mono ?_
  rintro e w5 ⟨rfl, u0, u1, u2, hG5, hr5, h25, hW5⟩
  clear HB HC BG B2
  have hr6 := hr5 rfl
  simp only [List.cons.injEq, and_true] at hr6
  obtain ⟨q0, q1, q2⟩ := hr6
  subst q0; subst q1; subst q2
  have HB := Aside0.mk hW5
  have BG := Aside0.mk hG5
  have B2 := Aside0.mk h25
  clear hW5 hG5 h25 hr5
  have hn1 := N2.out
  have hn2 := Ne.symm N2.out
  have hcBG0 := blk_cell BG.out 0
  have hfBG0 := blk_frozen BG.out 0
  have hcBG1 := blk_cell BG.out 1
  have hfBG1 := blk_frozen BG.out 1
  have hcBG2 := blk_cell BG.out 2
  have hfBG2 := blk_frozen BG.out 2
  have hcB20 := blk_cell B2.out 0
  have hfB20 := blk_frozen B2.out 0
  have hcB21 := blk_cell B2.out 1
  have hfB21 := blk_frozen B2.out 1
  have hcB22 := blk_cell B2.out 2
  have hfB22 := blk_frozen B2.out 2
  simp only [List.getElem?_toArray, List.getElem?_cons_zero, List.getElem?_cons_succ] at hcBG0 hcBG1 hcBG2 hcB20 hcB21 hcB22
  dsimp only
  go_wp2_with (fail)
  refine (rights_sound.calls y0 y1 y2 false _ hs).mono ?_; rintro e w6 ⟨rfl, hb⟩; have m0 := Aside0.mk (below_step (by repeat (first | (with_reducible first | exact HB.out | apply below_alloc | apply pw_below_drewN | apply below_drew1 | refine below_set ?_ G2.out | refine below_set ?_ GG.out) | exact HB.out)) hb); have m4 := Aside0.mk (blk_below (g := g) (o := (.cells #[.int .i64 y0, .int .i64 y1, .int .i64 y2] 23 (0, 0))) (by (with_reducible repeat (first | refine blk_drewN ?_ _ | refine blk_drew ?_ | refine blk_alloc ?_ _)); exact BG.out) hb); have m5 := Aside0.mk (blk_below (g := g2) (o := (.cells #[.int .i64 0, .int .i64 0, .int .i64 0] 23 (0, 0))) (by (with_reducible repeat (first | refine blk_drewN ?_ _ | refine blk_drew ?_ | refine blk_alloc ?_ _)); exact B2.out) hb); clear HB BG B2 hb; have HB := m0; have BG := m4; have B2 := m5; clear m0 m4 m5; have hn1 := N2.out; have hn2 := Ne.symm N2.out; have hcBG0 := blk_cell BG.out 0; have hfBG0 := blk_frozen BG.out 0; have hcBG1 := blk_cell BG.out 1; have hfBG1 := blk_frozen BG.out 1; have hcBG2 := blk_cell BG.out 2; have hfBG2 := blk_frozen BG.out 2; have hcB20 := blk_cell B2.out 0; have hfB20 := blk_frozen B2.out 0; have hcB21 := blk_cell B2.out 1; have hfB21 := blk_frozen B2.out 1; have hcB22 := blk_cell B2.out 2; have hfB22 := blk_frozen B2.out 2; simp only [List.getElem?_toArray, List.getElem?_cons_zero, List.getElem?_cons_succ] at hcBG0 hcBG1 hcBG2 hcB20 hcB21 hcB22
  dsimp only
  go_wp2
  refine bodyPost_ret (results_ct rfl _ _ g2 23 #[.int .i64 0, .int .i64 0, .int .i64 0] (0, 0) _ rfl (by (with_reducible repeat (first | refine blk_drewN ?_ _ | refine blk_drew ?_ | refine blk_alloc ?_ _)); refine blk_put (cs := #[.int .i64 0, .int .i64 0, .int .i64 0]) ?_ 2 _ rfl; (with_reducible repeat (first | refine blk_drewN ?_ _ | refine blk_drew ?_ | refine blk_alloc ?_ _)); refine blk_put (cs := #[.int .i64 0, .int .i64 0, .int .i64 0]) ?_ 1 _ rfl; (with_reducible repeat (first | refine blk_drewN ?_ _ | refine blk_drew ?_ | refine blk_alloc ?_ _)); refine blk_put (cs := #[.int .i64 0, .int .i64 0, .int .i64 0]) ?_ 0 _ rfl; (with_reducible repeat (first | refine blk_drewN ?_ _ | refine blk_drew ?_ | refine blk_alloc ?_ _)); exact B2.out) Try.underlying23 rfl (by kernel_rfl)) rfl ?_
  exact ⟨by first | rfl | (simp <;> rfl), by repeat (first | (with_reducible first | exact HB.out | apply below_alloc | apply pw_below_drewN | apply below_drew1 | refine below_set ?_ G2.out | refine below_set ?_ GG.out) | exact HB.out)⟩
set_option maxHeartbeats 8000000 in
set_option maxRecDepth 100000 in
theorem racc_C (k : Nat) (A0 : Option Addr) (c0 : Nat) (l0 : List Int) (y0 y1 y2 : Int) (h : numsF k 3 l0 = some ([y0, y1, y2], true)) (hs : rights_sound.f y0 y1 y2 = some true) (w : World) (hr0 : Kd.C (Kd.int .u8) w A0 l0.length l0) (hc0 : l0.length ≤ c0) :
    Calls Try.prog 39 #[.slice A0 l0.length c0] w fun e w' => e = .returned (.tuple #[.agg #[.int .i64 y0, .int .i64 y1, .int .i64 y2], .int .i64 0]) ∧ Below w.heap.size w w' := by
  have hu23 := Try.underlying23
  have hu69 := Try.underlying69
  have HB := Aside0.mk (Below.refl w.heap.size w)
  have HC := Aside0.mk hr0
  clear hr0
  go_enter Try.func39, Try.ntmps39
  go_wp2_with (first | ((with_reducible refine gate_dst (N := 2) rfl ?_); refine box_event ?hg (N := 2) ?hd (cs := #[.int .i64 0, .int .i64 0, .int .i64 0]) (t := 23) ?hr ?_; (case hd => rfl); (case hg => rfl); (case hr => first | (go_simp; done) | (go_simp; rfl)); intro g2 hg w1 hbox hb; have m0 := Aside0.mk (below_step (by repeat (first | (with_reducible first | exact HB.out | apply below_alloc | apply pw_below_drewN | apply below_drew1) | exact HB.out)) hb); have m1 := Aside0.mk hbox; have m2 := Aside0.mk ((by rw [hg]; exact (below_size (by repeat (first | (with_reducible first | exact HB.out | apply below_alloc | apply pw_below_drewN | apply below_drew1) | exact HB.out))) : w.heap.size ≤ g2)); have m3 := Aside0.mk (Kd.C_below (by repeat (first | exact HC.out | (with_reducible refine Kd.C_alloc ?_ _) | (with_reducible refine Kd.C_drewN ?_ _) | (with_reducible refine Kd.C_drew ?_))) hb); clear HB HC; have HB := m0; have B2 := m1; have G2 := m2; have HC := m3; clear m0 m1 m2 m3; clear hb hbox hg) | ((with_reducible refine gate_dst (N := 4) rfl ?_); refine box_event ?hg (N := 4) ?hd (cs := #[.int .i64 0, .int .i64 0, .int .i64 0]) (t := 23) ?hr ?_; (case hd => rfl); (case hg => rfl); (case hr => first | (go_simp; done) | (go_simp; rfl)); intro g hg w2 hbox hb; have m0 := Aside0.mk (below_step (by repeat (first | (with_reducible first | exact HB.out | apply below_alloc | apply pw_below_drewN | apply below_drew1 | refine below_set ?_ G2.out) | exact HB.out)) hb); have m1 := Aside0.mk hbox; have m2 := Aside0.mk ((by rw [hg]; exact (below_size (by repeat (first | (with_reducible first | exact HB.out | apply below_alloc | apply pw_below_drewN | apply below_drew1 | refine below_set ?_ G2.out) | exact HB.out))) : w.heap.size ≤ g)); have m3 := Aside0.mk (Kd.C_below (by repeat (first | exact HC.out | (with_reducible refine Kd.C_alloc ?_ _) | (with_reducible refine Kd.C_drewN ?_ _) | (with_reducible refine Kd.C_drew ?_))) hb); have m4 := Aside0.mk (blk_below (g := g2) (o := (.cells #[.int .i64 0, .int .i64 0, .int .i64 0] 23 (0, 0))) (by (with_reducible repeat (first | refine blk_drewN ?_ _ | refine blk_drew ?_ | refine blk_alloc ?_ _)); exact B2.out) hb); have m5 := Aside0.mk ((by rw [hg]; exact Nat.ne_of_lt (blk_lt (g := g2) (o := (.cells #[.int .i64 0, .int .i64 0, .int .i64 0] 23 (0, 0))) (by (with_reducible repeat (first | refine blk_drewN ?_ _ | refine blk_drew ?_ | refine blk_alloc ?_ _)); exact B2.out)) : g2 ≠ g)); clear HB HC B2; have HB := m0; have BG := m1; have GG := m2; have HC := m3; have B2 := m4; have N2 := m5; clear m0 m1 m2 m3 m4 m5; clear hb hbox hg))
  refine (rights_numbers.calls3 k w g w2.heap.size g2 A0 c0 l0 #[.int .i64 0, .int .i64 0, .int .i64 0] [y0, y1, y2] true _ (Kd.C_alloc HC.out _) hc0 (blk_new _ _) (blk_alloc BG.out _) (blk_alloc B2.out _) (Nat.ne_of_gt (blk_lt BG.out)) N2.out (below_alloc HB.out _) GG.out h).mono ?_
  rintro e w5 ⟨rfl, u0, u1, u2, hG5, hr5, h25, hW5⟩
  clear HB HC BG B2
  have hr6 := hr5 rfl
  simp only [List.cons.injEq, and_true] at hr6
  obtain ⟨q0, q1, q2⟩ := hr6
  subst q0; subst q1; subst q2
  have HB := Aside0.mk hW5
  have BG := Aside0.mk hG5
  have B2 := Aside0.mk h25
  clear hW5 hG5 h25 hr5
  have hn1 := N2.out
  have hn2 := Ne.symm N2.out
  have hcBG0 := blk_cell BG.out 0
  have hfBG0 := blk_frozen BG.out 0
  have hcBG1 := blk_cell BG.out 1
  have hfBG1 := blk_frozen BG.out 1
  have hcBG2 := blk_cell BG.out 2
  have hfBG2 := blk_frozen BG.out 2
  have hcB20 := blk_cell B2.out 0
  have hfB20 := blk_frozen B2.out 0
  have hcB21 := blk_cell B2.out 1
  have hfB21 := blk_frozen B2.out 1
  have hcB22 := blk_cell B2.out 2
  have hfB22 := blk_frozen B2.out 2
  simp only [List.getElem?_toArray, List.getElem?_cons_zero, List.getElem?_cons_succ] at hcBG0 hcBG1 hcBG2 hcB20 hcB21 hcB22
  dsimp only
  go_wp2_with (fail)
  refine (rights_sound.calls y0 y1 y2 true _ hs).mono ?_; rintro e w6 ⟨rfl, hb⟩; have m0 := Aside0.mk (below_step (by repeat (first | (with_reducible first | exact HB.out | apply below_alloc | apply pw_below_drewN | apply below_drew1 | refine below_set ?_ G2.out | refine below_set ?_ GG.out) | exact HB.out)) hb); have m4 := Aside0.mk (blk_below (g := g) (o := (.cells #[.int .i64 y0, .int .i64 y1, .int .i64 y2] 23 (0, 0))) (by (with_reducible repeat (first | refine blk_drewN ?_ _ | refine blk_drew ?_ | refine blk_alloc ?_ _)); exact BG.out) hb); have m5 := Aside0.mk (blk_below (g := g2) (o := (.cells #[.int .i64 0, .int .i64 0, .int .i64 0] 23 (0, 0))) (by (with_reducible repeat (first | refine blk_drewN ?_ _ | refine blk_drew ?_ | refine blk_alloc ?_ _)); exact B2.out) hb); clear HB BG B2 hb; have HB := m0; have BG := m4; have B2 := m5; clear m0 m4 m5; have hn1 := N2.out; have hn2 := Ne.symm N2.out; have hcBG0 := blk_cell BG.out 0; have hfBG0 := blk_frozen BG.out 0; have hcBG1 := blk_cell BG.out 1; have hfBG1 := blk_frozen BG.out 1; have hcBG2 := blk_cell BG.out 2; have hfBG2 := blk_frozen BG.out 2; have hcB20 := blk_cell B2.out 0; have hfB20 := blk_frozen B2.out 0; have hcB21 := blk_cell B2.out 1; have hfB21 := blk_frozen B2.out 1; have hcB22 := blk_cell B2.out 2; have hfB22 := blk_frozen B2.out 2; simp only [List.getElem?_toArray, List.getElem?_cons_zero, List.getElem?_cons_succ] at hcBG0 hcBG1 hcBG2 hcB20 hcB21 hcB22
  dsimp only
  go_wp2
  refine bodyPost_ret (results_ct rfl _ _ g2 23 #[.int .i64 y0, .int .i64 y1, .int .i64 y2] (0, 0) _ rfl (by (with_reducible repeat (first | refine blk_drewN ?_ _ | refine blk_drew ?_ | refine blk_alloc ?_ _)); refine blk_put (cs := #[.int .i64 y0, .int .i64 y1, .int .i64 0]) ?_ 2 _ rfl; (with_reducible repeat (first | refine blk_drewN ?_ _ | refine blk_drew ?_ | refine blk_alloc ?_ _)); refine blk_put (cs := #[.int .i64 y0, .int .i64 0, .int .i64 0]) ?_ 1 _ rfl; (with_reducible repeat (first | refine blk_drewN ?_ _ | refine blk_drew ?_ | refine blk_alloc ?_ _)); refine blk_put (cs := #[.int .i64 0, .int .i64 0, .int .i64 0]) ?_ 0 _ rfl; (with_reducible repeat (first | refine blk_drewN ?_ _ | refine blk_drew ?_ | refine blk_alloc ?_ _)); exact B2.out) Try.underlying23 rfl (by kernel_rfl)) rfl ?_
  exact ⟨by first | rfl | (simp <;> rfl), by repeat (first | (with_reducible first | exact HB.out | apply below_alloc | apply pw_below_drewN | apply below_drew1 | refine below_set ?_ G2.out | refine below_set ?_ GG.out) | exact HB.out)⟩
def rights_ReadAccount.f (k : Nat) (l0 : List Int) : Option (Int × Int × Int × Int) := (numsF k 3 l0).bind fun t => if t.2 = true then ((rights_sound.f (rd t.1 0) (rd t.1 1) (rd t.1 2)).bind fun s => if s = true then some (rd t.1 0, rd t.1 1, rd t.1 2, 0) else some (0, 0, 0, 206)) else some (0, 0, 0, 206)
theorem rights_ReadAccount.mono : ∀ l0 k, LeO (rights_ReadAccount.f k l0) (rights_ReadAccount.f (k + 1) l0) := by
  intro l0 k
  unfold rights_ReadAccount.f
  exact LeO.bind (numsF.mono 3 l0 k) (fun _ => LeO.refl _)
theorem racc_len (k : Nat) : ∀ (m : Nat) (l s : List Int), numsF k m l = some (s, true) → s.length = m := by
  intro m
  induction m with
  | zero =>
    intro l s h
    have h : some (([] : List Int), ((l.length : Int) == 0)) = some (s, true) := h
    simp only [Option.some.injEq, Prod.mk.injEq] at h
    rw [← h.1]; rfl
  | succ m ih =>
    intro l s h
    rw [numsF] at h
    obtain ⟨t, _, h⟩ := Option.bind_eq_some_iff.mp h
    split at h
    · split at h
      · simp at h
      · obtain ⟨r, h1, h⟩ := Option.bind_eq_some_iff.mp h
        simp only [Option.some.injEq, Prod.mk.injEq] at h
        obtain ⟨rfl, h2⟩ := h
        have := ih t.2.1 r.1 (by rw [h1, ← h2])
        rw [List.length_cons, this]
    · simp at h
theorem rights_ReadAccount.calls (k : Nat) (A0 : Option Addr) (c0 : Nat) (l0 : List Int) (r1 r2 r3 r4 : Int) (w : World) (hr0 : Kd.C (Kd.int .u8) w A0 l0.length l0) (hc0 : l0.length ≤ c0) (h : rights_ReadAccount.f k l0 = some (r1, r2, r3, r4)) :
    Calls Try.prog 39 #[.slice A0 l0.length c0] w fun e w' => e = .returned (.tuple #[.agg #[.int .i64 r1, .int .i64 r2, .int .i64 r3], .int .i64 r4]) ∧ Below w.heap.size w w' := by
  unfold rights_ReadAccount.f at h
  obtain ⟨⟨s, b⟩, h1, h⟩ := Option.bind_eq_some_iff.mp h
  cases b with
  | false =>
    have h2 : some ((0 : Int), (0 : Int), (0 : Int), (206 : Int)) = some (r1, r2, r3, r4) := h
    simp only [Option.some.injEq, Prod.mk.injEq] at h2
    obtain ⟨rfl, rfl, rfl, rfl⟩ := h2
    exact racc_A k A0 c0 l0 s h1 w hr0 hc0
  | true =>
    have hl := racc_len k 3 l0 s h1
    obtain ⟨y0, y1, y2, rfl⟩ : ∃ y0 y1 y2 : Int, s = [y0, y1, y2] := by
      match s, hl with
      | [y0, y1, y2], _ => exact ⟨y0, y1, y2, rfl⟩
    have h2 : (rights_sound.f y0 y1 y2).bind (fun s => if s = true then some (y0, y1, y2, (0 : Int)) else some ((0 : Int), (0 : Int), (0 : Int), (206 : Int))) = some (r1, r2, r3, r4) := h
    obtain ⟨q, h3, h4⟩ := Option.bind_eq_some_iff.mp h2
    cases q with
    | false =>
      have h5 : some ((0 : Int), (0 : Int), (0 : Int), (206 : Int)) = some (r1, r2, r3, r4) := h4
      simp only [Option.some.injEq, Prod.mk.injEq] at h5
      obtain ⟨rfl, rfl, rfl, rfl⟩ := h5
      exact racc_B k A0 c0 l0 y0 y1 y2 h1 h3 w hr0 hc0
    | true =>
      have h5 : some (y0, y1, y2, (0 : Int)) = some (r1, r2, r3, r4) := h4
      simp only [Option.some.injEq, Prod.mk.injEq] at h5
      obtain ⟨rfl, rfl, rfl, rfl⟩ := h5
      exact racc_C k A0 c0 l0 y0 y1 y2 h1 h3 w hr0 hc0
mutual
def lienref02_TakeNum.j1 : Nat → List Int → Int → Option (Int × List Int × Bool)
  | 0, _, _ => none
  | k + 1, x0, x5 => if x5 = (x0.length : Int) then (lienref02_TakeNum.j2 k x0 x5 true) else (lienref02_TakeNum.j2 k x0 x5 (x5 == 10))
def lienref02_TakeNum.j2 : Nat → List Int → Int → Bool → Option (Int × List Int × Bool)
  | 0, _, _, _ => none
  | k + 1, x0, x5, x33 => if x33 = true then (some (0, ([] : List Int), false)) else (lienref02_TakeNum.l1 k x0 x5 0 x5)
def lienref02_TakeNum.l1 : Nat → List Int → Int → Int → Int → Option (Int × List Int × Bool)
  | 0, _, _, _, _ => none
  | k + 1, x0, x5, x6, x7 => if x7 ≥ 0 then (if x6 > 144115188075855871 then (some (0, ([] : List Int), false)) else (if 0 ≤ x7 then (if x7 < (x0.length : Int) then (lienref02_TakeNum.l1 k x0 x5 (IntKind.u64.wrap ((IntKind.u64.wrap (x6 * 128)) + (IntKind.u64.wrap (Int.tmod (rd x0 x7) 128)))) (wrap64 (x7 - 1))) else (none)) else (none))) else ((lienref02_Num.f k x6).bind fun t248 => (if (t248.length : Int) = (wrap64 (x5 + 1)) then ((some (([] : List Int) : List Int)).bind fun y251 => (if 0 ≤ (wrap64 (x5 + 1)) then (if (wrap64 (x5 + 1)) ≤ (x0.length : Int) then (if y251.length + (x0.drop ((wrap64 (x5 + 1)) : Int).toNat).length < 140737488355328 then (some (x6, (y251 ++ (x0.drop ((wrap64 (x5 + 1)) : Int).toNat)), true)) else (none)) else (none)) else (none))) else (some (0, ([] : List Int), false))))
def lienref02_TakeNum.l0 : Nat → List Int → Int → Option (Int × List Int × Bool)
  | 0, _, _ => none
  | k + 1, x0, x5 => if x5 < (x0.length : Int) then (if x5 < 10 then (if 0 ≤ x5 then (if (rd x0 x5) ≥ 128 then (lienref02_TakeNum.l0 k x0 (wrap64 (x5 + 1))) else (lienref02_TakeNum.j1 k x0 x5)) else (none)) else (lienref02_TakeNum.j1 k x0 x5)) else (lienref02_TakeNum.j1 k x0 x5)
end
def lienref02_TakeNum.f (k : Nat) (l0 : List Int) : Option (Int × List Int × Bool) := lienref02_TakeNum.l0 k l0 0
theorem lienref02_TakeNum.mono_l : ∀ k, (∀ y0 y1, LeO (lienref02_TakeNum.j1 k y0 y1) (lienref02_TakeNum.j1 (k + 1) y0 y1)) ∧ (∀ y0 y1 y2, LeO (lienref02_TakeNum.j2 k y0 y1 y2) (lienref02_TakeNum.j2 (k + 1) y0 y1 y2)) ∧ (∀ y0 y1 y2 y3, LeO (lienref02_TakeNum.l1 k y0 y1 y2 y3) (lienref02_TakeNum.l1 (k + 1) y0 y1 y2 y3)) ∧ (∀ y0 y1, LeO (lienref02_TakeNum.l0 k y0 y1) (lienref02_TakeNum.l0 (k + 1) y0 y1))
  | 0 => ⟨fun _ _ r h => by simp [lienref02_TakeNum.j1] at h, fun _ _ _ r h => by simp [lienref02_TakeNum.j2] at h, fun _ _ _ _ r h => by simp [lienref02_TakeNum.l1] at h, fun _ _ r h => by simp [lienref02_TakeNum.l0] at h⟩
  | k + 1 => by
    obtain ⟨ih0, ih1, ih2, ih3⟩ := lienref02_TakeNum.mono_l k
    refine ⟨?_, ?_, ?_, ?_⟩
    · intro y0 y1
      unfold lienref02_TakeNum.j1
      repeat' first
      | (with_reducible exact ih0 _ _)
      | (with_reducible exact ih1 _ _ _)
      | (with_reducible exact ih2 _ _ _ _)
      | (with_reducible exact ih3 _ _)
      | (with_reducible exact lienref02_Num.mono _ _)
      | (with_reducible exact LeO.refl _)
      | (with_reducible exact LeO.none _)
      | (with_reducible refine LeO.ite ?_ ?_)
      | (with_reducible refine LeO.bind ?_ (fun _ => ?_))
      | exact ih0 _ _
      | exact ih1 _ _ _
      | exact ih2 _ _ _ _
      | exact ih3 _ _
      | exact lienref02_Num.mono _ _
      | exact LeO.none _
      | refine LeO.ite ?_ ?_
      | refine LeO.bind ?_ (fun _ => ?_)
    · intro y0 y1 y2
      unfold lienref02_TakeNum.j2
      repeat' first
      | (with_reducible exact ih0 _ _)
      | (with_reducible exact ih1 _ _ _)
      | (with_reducible exact ih2 _ _ _ _)
      | (with_reducible exact ih3 _ _)
      | (with_reducible exact lienref02_Num.mono _ _)
      | (with_reducible exact LeO.refl _)
      | (with_reducible exact LeO.none _)
      | (with_reducible refine LeO.ite ?_ ?_)
      | (with_reducible refine LeO.bind ?_ (fun _ => ?_))
      | exact ih0 _ _
      | exact ih1 _ _ _
      | exact ih2 _ _ _ _
      | exact ih3 _ _
      | exact lienref02_Num.mono _ _
      | exact LeO.none _
      | refine LeO.ite ?_ ?_
      | refine LeO.bind ?_ (fun _ => ?_)
    · intro y0 y1 y2 y3
      unfold lienref02_TakeNum.l1
      repeat' first
      | (with_reducible exact ih0 _ _)
      | (with_reducible exact ih1 _ _ _)
      | (with_reducible exact ih2 _ _ _ _)
      | (with_reducible exact ih3 _ _)
      | (with_reducible exact lienref02_Num.mono _ _)
      | (with_reducible exact LeO.refl _)
      | (with_reducible exact LeO.none _)
      | (with_reducible refine LeO.ite ?_ ?_)
      | (with_reducible refine LeO.bind ?_ (fun _ => ?_))
      | exact ih0 _ _
      | exact ih1 _ _ _
      | exact ih2 _ _ _ _
      | exact ih3 _ _
      | exact lienref02_Num.mono _ _
      | exact LeO.none _
      | refine LeO.ite ?_ ?_
      | refine LeO.bind ?_ (fun _ => ?_)
    · intro y0 y1
      unfold lienref02_TakeNum.l0
      repeat' first
      | (with_reducible exact ih0 _ _)
      | (with_reducible exact ih1 _ _ _)
      | (with_reducible exact ih2 _ _ _ _)
      | (with_reducible exact ih3 _ _)
      | (with_reducible exact lienref02_Num.mono _ _)
      | (with_reducible exact LeO.refl _)
      | (with_reducible exact LeO.none _)
      | (with_reducible refine LeO.ite ?_ ?_)
      | (with_reducible refine LeO.bind ?_ (fun _ => ?_))
      | exact ih0 _ _
      | exact ih1 _ _ _
      | exact ih2 _ _ _ _
      | exact ih3 _ _
      | exact lienref02_Num.mono _ _
      | exact LeO.none _
      | refine LeO.ite ?_ ?_
      | refine LeO.bind ?_ (fun _ => ?_)
theorem lienref02_TakeNum.mono : ∀ a0 k, LeO (lienref02_TakeNum.f k a0) (lienref02_TakeNum.f (k + 1) a0) := by
  intro a0 k
  obtain ⟨ih0, ih1, ih2, ih3⟩ := lienref02_TakeNum.mono_l k
  unfold lienref02_TakeNum.f
  repeat' first
      | (with_reducible exact ih0 _ _)
      | (with_reducible exact ih1 _ _ _)
      | (with_reducible exact ih2 _ _ _ _)
      | (with_reducible exact ih3 _ _)
      | (with_reducible exact lienref02_Num.mono _ _)
      | (with_reducible exact LeO.refl _)
      | (with_reducible exact LeO.none _)
      | (with_reducible refine LeO.ite ?_ ?_)
      | (with_reducible refine LeO.bind ?_ (fun _ => ?_))
      | exact ih0 _ _
      | exact ih1 _ _ _
      | exact ih2 _ _ _ _
      | exact ih3 _ _
      | exact lienref02_Num.mono _ _
      | exact LeO.none _
      | refine LeO.ite ?_ ?_
      | refine LeO.bind ?_ (fun _ => ?_)
set_option maxHeartbeats 8000000 in
set_option maxRecDepth 100000 in
theorem lienref02_TakeNum.calls (k : Nat) (A0 : Option Addr) (c0 : Nat) (l0 : List Int) (r1 : Int) (r2 : List Int) (r3 : Bool) (w : World) (hr0 : Kd.C (Kd.int .u8) w A0 l0.length l0) (hc0 : l0.length ≤ c0) (h : lienref02_TakeNum.f k l0 = some (r1, r2, r3)) :
    Calls Try.prog 60 #[.slice A0 l0.length c0] w fun e w' => ∃ v1_ : Value, e = .returned (.tuple #[.int .u64 r1, v1_, .bool r3]) ∧ Kd.R (Kd.int .u8) 5 w' w.heap.size (fun _ => True) v1_ r2 ∧ Below w.heap.size w w' := by
  have HR0 := Aside0.mk hr0
  have HC0 := Aside0.mk hc0
  clear hr0 hc0
  have HB := Aside0.mk (Below.refl w.heap.size w)
  have H : (lienref02_TakeNum.l0 k l0 0) = some (r1, r2, r3) := h
  clear h
  have HC2 := Aside0.mk H
  clear H
  go_enter Try.func60, Try.ntmps60
  go_upto_block 0 with (fail)
  go_cut [5] (fun v5 wc => ∃ (kq : Nat) (x5_1 : Int), v5 = .int .i64 x5_1 ∧ Aside0 (lienref02_TakeNum.j1 kq l0 x5_1 = some (r1, r2, r3)) ∧ Aside0 (kq ≤ k) ∧ Aside0 (Below w.heap.size w wc))
  case first =>
    have H := HC2.out
    clear HC2
    have H' := Aside0.mk H
    clear H
    go_wp2
    go_loopg [5] k (fun kq v5 w' => ∃ (x5_1 : Int), v5 = .int .i64 x5_1 ∧ Aside0 (lienref02_TakeNum.l0 kq l0 x5_1 = some (r1, r2, r3)) ∧ Aside0 (kq ≤ k) ∧ Aside0 (Below w.heap.size w w'))
    case atStart => exact ⟨(0), (by first | rfl | (simp; done) | (simp [*]; done)), H', ⟨Nat.le_refl _⟩, ⟨by repeat (first | (with_reducible first | exact HB.out | apply below_alloc | apply pw_below_drewN | apply below_drew1) | exact HB.out)⟩⟩
    case round =>
      clear H'
      try clear p2
      obtain ⟨x5_1, rfl, HA, HK1, HB⟩ := hrel
      cases gk with
      | zero => exact absurd HA.out (by simp [lienref02_TakeNum.l0])
      | succ k1 =>
        have H := HA.out
        clear HA
        simp only [lienref02_TakeNum.l0] at H
        by_cases c3 : x5_1 < (l0.length : Int)
        · rw [if_pos c3] at H
          have c3b0 : decide (x5_1 < (l0.length : Int)) = true := decide_eq_true c3
          clear c3
          (first | rw [c3b0] | (simp only [i64_w, i32_w]; rw [c3b0]) | skip)
          by_cases c4 : x5_1 < 10
          · rw [if_pos c4] at H
            have c4b0 : decide (x5_1 < 10) = true := decide_eq_true c4
            clear c4
            by_cases c5 : 0 ≤ x5_1
            · rw [if_pos c5] at H
              have c5b0 : decide (0 ≤ x5_1) = true := decide_eq_true c5
              clear c5
              by_cases c6 : (rd l0 x5_1) ≥ 128
              · rw [if_pos c6] at H
                have c6b0 : decide (128 ≤ (rd l0 x5_1)) = true := decide_eq_true c6
                clear c6
                have H' := Aside0.mk H
                clear H
                have p246 : 0 ≤ (x5_1 : Int) := of_decide_eq_true (by first | (with_reducible assumption) | assumption)
                have q246 : x5_1 < (l0.length : Int) := of_decide_eq_true (by first | (with_reducible assumption) | assumption)
                obtain ⟨ad246, e246, hx246_0⟩ := Kd.at_int HR0.out x5_1 p246 q246
                cases e246
                replace hx246_0 := (HB.out.cell (World.block_lt_of_cell? w _ hx246_0)).trans hx246_0
                replace p246 := eq_true p246
                replace q246 := eq_true q246
                go_wp2
                go_roundg k1
                case measure => have := HK1.out; omega
                case rel => exact ⟨(wrap64 (x5_1 + 1)), (by first | rfl | (simp; done) | (simp [*]; done)), H', ⟨by have := HK1.out; omega⟩, ⟨by repeat (first | (with_reducible first | exact HB.out | apply below_alloc | apply pw_below_drewN | apply below_drew1) | exact HB.out)⟩⟩
              · rw [if_neg c6] at H
                have c6b0 : decide (128 ≤ (rd l0 x5_1)) = false := decide_eq_false c6
                clear c6
                have H' := Aside0.mk H
                clear H
                have p246 : 0 ≤ (x5_1 : Int) := of_decide_eq_true (by first | (with_reducible assumption) | assumption)
                have q246 : x5_1 < (l0.length : Int) := of_decide_eq_true (by first | (with_reducible assumption) | assumption)
                obtain ⟨ad246, e246, hx246_0⟩ := Kd.at_int HR0.out x5_1 p246 q246
                cases e246
                replace hx246_0 := (HB.out.cell (World.block_lt_of_cell? w _ hx246_0)).trans hx246_0
                replace p246 := eq_true p246
                replace q246 := eq_true q246
                go_wp2
                go_meet
                case rel => exact ⟨_, (x5_1), (by first | rfl | (simp; done) | (simp [*]; done)), H', ⟨by have := HK1.out; first | omega | exact Nat.le_refl _⟩, ⟨by repeat (first | (with_reducible first | exact HB.out | apply below_alloc | apply pw_below_drewN | apply below_drew1) | exact HB.out)⟩⟩
            · rw [if_neg c5] at H
              exact absurd H (by simp)
          · rw [if_neg c4] at H
            have c4b0 : decide (x5_1 < 10) = false := decide_eq_false c4
            clear c4
            have H' := Aside0.mk H
            clear H
            go_wp2
            go_meet
            case rel => exact ⟨_, (x5_1), (by first | rfl | (simp; done) | (simp [*]; done)), H', ⟨by have := HK1.out; first | omega | exact Nat.le_refl _⟩, ⟨by repeat (first | (with_reducible first | exact HB.out | apply below_alloc | apply pw_below_drewN | apply below_drew1) | exact HB.out)⟩⟩
        · rw [if_neg c3] at H
          have c3b0 : decide (x5_1 < (l0.length : Int)) = false := decide_eq_false c3
          clear c3
          (first | rw [c3b0] | (simp only [i64_w, i32_w]; rw [c3b0]) | skip)
          have H' := Aside0.mk H
          clear H
          go_wp2
          go_meet
          case rel => exact ⟨_, (x5_1), (by first | rfl | (simp; done) | (simp [*]; done)), H', ⟨by have := HK1.out; first | omega | exact Nat.le_refl _⟩, ⟨by repeat (first | (with_reducible first | exact HB.out | apply below_alloc | apply pw_below_drewN | apply below_drew1) | exact HB.out)⟩⟩
  case rest =>
    clear HC2
    try clear p2
    try clear q2
    try clear hx2
    try clear c3
    try clear c3b0
    try clear c4
    try clear c4b0
    try clear c5
    try clear c5b0
    try clear c6
    try clear c6b0
    try clear p6
    try clear hx246_0
    try clear p2
    try clear p246
    try clear q246
    obtain ⟨kq, x5_1, rfl, HA, HJ1, HB⟩ := hcut
    cases kq with
    | zero => exact absurd HA.out (by simp [lienref02_TakeNum.j1])
    | succ kj1 =>
      have H := HA.out
      clear HA
      simp only [lienref02_TakeNum.j1] at H
      have HC7 := Aside0.mk H
      clear H
      go_upto_region 4 with (fail)
      go_cut [33] (fun v33 wc => ∃ (kq : Nat) (x33_6 : Bool), v33 = .bool x33_6 ∧ Aside0 (lienref02_TakeNum.j2 kq l0 x5_1 x33_6 = some (r1, r2, r3)) ∧ Aside0 (kq ≤ kj1) ∧ Aside0 (Below w.heap.size w wc))
      case first =>
        have H := HC7.out
        clear HC7
        by_cases c8 : x5_1 = (l0.length : Int)
        · rw [if_pos c8] at H
          have c8b0 : (x5_1 == (l0.length : Int)) = true := beq_iff_eq.mpr c8
          have c8b1 : (x5_1 != (l0.length : Int)) = false := bne_eq_false_iff_eq.mpr c8
          clear c8
          (first | rw [c8b0] | (simp only [i64_w, i32_w]; rw [c8b0]) | skip)
          have H' := Aside0.mk H
          clear H
          go_wp2
          go_meet
          case rel => exact ⟨_, (true), (by first | rfl | (simp; done) | (simp [*]; done)), H', ⟨by have := HJ1.out; first | omega | exact Nat.le_refl _⟩, ⟨by repeat (first | (with_reducible first | exact HB.out | apply below_alloc | apply pw_below_drewN | apply below_drew1) | exact HB.out)⟩⟩
        · rw [if_neg c8] at H
          have c8b0 : (x5_1 == (l0.length : Int)) = false := beq_eq_false_iff_ne.mpr c8
          have c8b1 : (x5_1 != (l0.length : Int)) = true := bne_iff_ne.mpr c8
          (first | rw [c8b0] | (simp only [i64_w, i32_w]; rw [c8b0]) | skip)
          have H' := Aside0.mk H
          clear H
          go_wp2
          go_meet
          case rel => exact ⟨_, ((x5_1 == 10)), (by first | rfl | (simp; done) | (simp [*]; done)), H', ⟨by have := HJ1.out; first | omega | exact Nat.le_refl _⟩, ⟨by repeat (first | (with_reducible first | exact HB.out | apply below_alloc | apply pw_below_drewN | apply below_drew1) | exact HB.out)⟩⟩
      case rest =>
        clear HC7
        try clear p2
        try clear q2
        try clear hx2
        try clear c3
        try clear c3b0
        try clear c4
        try clear c4b0
        try clear c5
        try clear c5b0
        try clear c6
        try clear c6b0
        try clear p6
        try clear c8
        try clear c8b0
        try clear c8b1
        try clear hx246_0
        try clear p2
        try clear p246
        try clear p6
        try clear q2
        try clear q246
        obtain ⟨kq, x33_6, rfl, HA, HJ6, HB⟩ := hcut
        cases kq with
        | zero => exact absurd HA.out (by simp [lienref02_TakeNum.j2])
        | succ kj6 =>
          have H := HA.out
          clear HA
          simp only [lienref02_TakeNum.j2] at H
          by_cases c9 : x33_6 = true
          · subst c9
            have H1 : (some (0, ([] : List Int), false)) = some (r1, r2, r3) := by rw [if_pos rfl] at H; exact H
            clear H
            have H := H1
            clear H1
            simp only [Option.some.injEq, Prod.mk.injEq] at H
            obtain ⟨rfl, rfl, rfl⟩ := H
            go_wp2
            go_ret3
            exact ⟨_, by first | rfl | (simp [errW_none, errW_some] <;> rfl) | (simp [*, errW_none, errW_some] <;> rfl), by first | exact Kd.R_nil _ _ _ _ _ | exact Kd.N_nil _ _ _ _ _ | exact Kd.V_nil _ _ _ _ _ | exact Kd.Q_nil _ _ _ _ _ | exact Kd.S_nil _ _ _ _ _, by repeat (first | (with_reducible first | exact HB.out | apply below_alloc | apply pw_below_drewN | apply below_drew1) | exact HB.out)⟩
          · replace c9 := Bool.eq_false_iff.mpr c9
            subst c9
            have H1 : (lienref02_TakeNum.l1 kj6 l0 x5_1 0 x5_1) = some (r1, r2, r3) := by rw [if_neg (show ¬ (false = true) by decide)] at H; exact H
            clear H
            have H := H1
            clear H1
            have H' := Aside0.mk H
            clear H
            go_wp2
            go_loopg [6, 7] kj6 (fun kq v6 v7 w' => ∃ (x6_3 : Int) (x7_3 : Int), v6 = .int .u64 x6_3 ∧ v7 = .int .i64 x7_3 ∧ Aside0 (lienref02_TakeNum.l1 kq l0 x5_1 x6_3 x7_3 = some (r1, r2, r3)) ∧ Aside0 (kq ≤ kj6) ∧ Aside0 (Below w.heap.size w w'))
            case atStart => exact ⟨(0), (x5_1), (by first | rfl | (simp; done) | (simp [*]; done)), (by first | rfl | (simp; done) | (simp [*]; done)), H', ⟨Nat.le_refl _⟩, ⟨by repeat (first | (with_reducible first | exact HB.out | apply below_alloc | apply pw_below_drewN | apply below_drew1) | exact HB.out)⟩⟩
            case round =>
              clear H'
              try clear p2
              try clear q2
              try clear hx2
              try clear c3
              try clear c3b0
              try clear c4
              try clear c4b0
              try clear c5
              try clear c5b0
              try clear c6
              try clear c6b0
              try clear p6
              try clear c8
              try clear c8b0
              try clear c8b1
              try clear c9
              try clear hx246_0
              try clear p2
              try clear p246
              try clear p6
              try clear q2
              try clear q246
              obtain ⟨x6_3, x7_3, rfl, rfl, HA, HK3, HB⟩ := hrel
              cases gk with
              | zero => exact absurd HA.out (by simp [lienref02_TakeNum.l1])
              | succ k3 =>
                have H := HA.out
                clear HA
                simp only [lienref02_TakeNum.l1] at H
                by_cases c10 : x7_3 ≥ 0
                · rw [if_pos c10] at H
                  have c10b0 : decide (0 ≤ x7_3) = true := decide_eq_true c10
                  clear c10
                  by_cases c11 : x6_3 > 144115188075855871
                  · rw [if_pos c11] at H
                    have c11b0 : decide (144115188075855871 < x6_3) = true := decide_eq_true c11
                    clear c11
                    simp only [Option.some.injEq, Prod.mk.injEq] at H
                    obtain ⟨rfl, rfl, rfl⟩ := H
                    go_wp2
                    go_ret3
                    exact ⟨_, by first | rfl | (simp [errW_none, errW_some] <;> rfl) | (simp [*, errW_none, errW_some] <;> rfl), by first | exact Kd.R_nil _ _ _ _ _ | exact Kd.N_nil _ _ _ _ _ | exact Kd.V_nil _ _ _ _ _ | exact Kd.Q_nil _ _ _ _ _ | exact Kd.S_nil _ _ _ _ _, by repeat (first | (with_reducible first | exact HB.out | apply below_alloc | apply pw_below_drewN | apply below_drew1) | exact HB.out)⟩
                  · rw [if_neg c11] at H
                    have c11b0 : decide (144115188075855871 < x6_3) = false := decide_eq_false c11
                    clear c11
                    by_cases c12 : 0 ≤ x7_3
                    · rw [if_pos c12] at H
                      have c12b0 : decide (0 ≤ x7_3) = true := decide_eq_true c12
                      clear c12
                      by_cases c13 : x7_3 < (l0.length : Int)
                      · rw [if_pos c13] at H
                        have c13b0 : decide (x7_3 < (l0.length : Int)) = true := decide_eq_true c13
                        clear c13
                        have H' := Aside0.mk H
                        clear H
                        have p247 : 0 ≤ (x7_3 : Int) := of_decide_eq_true (by first | (with_reducible assumption) | assumption)
                        have q247 : x7_3 < (l0.length : Int) := of_decide_eq_true (by first | (with_reducible assumption) | assumption)
                        obtain ⟨ad247, e247, hx247_0⟩ := Kd.at_int HR0.out x7_3 p247 q247
                        cases e247
                        replace hx247_0 := (HB.out.cell (World.block_lt_of_cell? w _ hx247_0)).trans hx247_0
                        replace p247 := eq_true p247
                        replace q247 := eq_true q247
                        go_wp2
                        go_roundg k3
                        case measure => have := HJ1.out; have := HJ6.out; have := HK3.out; omega
                        case rel => exact ⟨(IntKind.u64.wrap ((IntKind.u64.wrap (x6_3 * 128)) + (IntKind.u64.wrap (Int.tmod (rd l0 x7_3) 128)))), (wrap64 (x7_3 - 1)), (by first | rfl | (simp; done) | (simp [*]; done)), (by first | rfl | (simp; done) | (simp [*]; done)), H', ⟨by have := HJ1.out; have := HJ6.out; have := HK3.out; omega⟩, ⟨by repeat (first | (with_reducible first | exact HB.out | apply below_alloc | apply pw_below_drewN | apply below_drew1) | exact HB.out)⟩⟩
                      · rw [if_neg c13] at H
                        exact absurd H (by simp)
                    · rw [if_neg c12] at H
                      exact absurd H (by simp)
                · rw [if_neg c10] at H
                  have c10b0 : decide (0 ≤ x7_3) = false := decide_eq_false c10
                  clear c10
                  replace H := Option.bind_eq_some_iff.mp H
                  obtain ⟨t248, A140, H⟩ := H
                  replace H : (if (t248.length : Int) = (wrap64 (x5_1 + 1)) then ((some (([] : List Int) : List Int)).bind fun y251 => (if 0 ≤ (wrap64 (x5_1 + 1)) then (if (wrap64 (x5_1 + 1)) ≤ (l0.length : Int) then (if y251.length + (l0.drop ((wrap64 (x5_1 + 1)) : Int).toNat).length < 140737488355328 then (some (x6_3, (y251 ++ (l0.drop ((wrap64 (x5_1 + 1)) : Int).toNat)), true)) else (none)) else (none)) else (none))) else (some (0, ([] : List Int), false))) = some (r1, r2, r3) := H
                  have A14 := Aside0.mk A140
                  clear A140
                  by_cases c15 : (t248.length : Int) = (wrap64 (x5_1 + 1))
                  · rw [if_pos c15] at H
                    have c15b0 : ((t248.length : Int) == (wrap64 (x5_1 + 1))) = true := beq_iff_eq.mpr c15
                    have c15b1 : ((t248.length : Int) != (wrap64 (x5_1 + 1))) = false := bne_eq_false_iff_eq.mpr c15
                    clear c15
                    obtain ⟨y251, hy251⟩ : ∃ y_ : List Int, y_ = (([] : List Int)) := ⟨_, rfl⟩
                    replace H : (if 0 ≤ (wrap64 (x5_1 + 1)) then (if (wrap64 (x5_1 + 1)) ≤ (l0.length : Int) then (if y251.length + (l0.drop ((wrap64 (x5_1 + 1)) : Int).toNat).length < 140737488355328 then (some (x6_3, (y251 ++ (l0.drop ((wrap64 (x5_1 + 1)) : Int).toNat)), true)) else (none)) else (none)) else (none)) = some (r1, r2, r3) := by first | (rw [hy251]; with_reducible exact H) | (have H2_ := (Option.bind_some _ _).symm.trans H; rw [hy251]; with_reducible exact H2_) | (have H2_ := (Option.bind_some _ _).symm.trans H; with_reducible exact H2_) | with_reducible exact H | (rw [hy251]; exact H) | exact H
                    have Ny251 := Aside0.mk hy251
                    clear hy251
                    obtain ⟨ji16, hji16⟩ : ∃ j_ : Int, (wrap64 (x5_1 + 1)) = j_ := ⟨_, rfl⟩
                    replace H : (if 0 ≤ (ji16) then (if (ji16) ≤ (l0.length : Int) then (if y251.length + (l0.drop ((ji16) : Int).toNat).length < 140737488355328 then (some (x6_3, (y251 ++ (l0.drop ((ji16) : Int).toNat)), true)) else (none)) else (none)) else (none)) = some (r1, r2, r3) := by first | (rw [hji16] at H; exact H) | (simp only [hji16] at H ⊢; exact H)
                    (try rw [hji16] at c15b0)
                    (try rw [hji16] at c15b1)
                    (try rw [hji16] at A14)
                    have hji16w : (IntKind.i64.wrap (x5_1 + 1)) = ji16 := (i64_w _).trans hji16
                    by_cases c17 : 0 ≤ (ji16)
                    · rw [if_pos c17] at H
                      have c17b0 := eq_true c17
                      have c17b1 : decide (0 ≤ (ji16)) = true := decide_eq_true c17
                      clear c17
                      by_cases c18 : (ji16) ≤ (l0.length : Int)
                      · rw [if_pos c18] at H
                        have c18b0 := eq_true c18
                        have c18b1 : decide ((ji16) ≤ (l0.length : Int)) = true := decide_eq_true c18
                        clear c18
                        by_cases c19 : y251.length + (l0.drop ((ji16) : Int).toNat).length < 140737488355328
                        · rw [if_pos c19] at H
                          have LMc19 := Aside0.mk c19
                          clear c19
                          obtain ⟨y255, hy255⟩ : ∃ y_ : List Int, y_ = (y251 ++ (l0.drop ((ji16) : Int).toNat)) := ⟨_, rfl⟩
                          replace H : (some (x6_3, y255, true)) = some (r1, r2, r3) := by first | (rw [hy255]; with_reducible exact H) | (have H2_ := (Option.bind_some _ _).symm.trans H; rw [hy255]; with_reducible exact H2_) | (have H2_ := (Option.bind_some _ _).symm.trans H; with_reducible exact H2_) | with_reducible exact H | (rw [hy255]; exact H) | exact H
                          have Ny255 := Aside0.mk hy255
                          clear hy255
                          simp only [Option.some.injEq, Prod.mk.injEq] at H
                          obtain ⟨rfl, rfl, rfl⟩ := H
                          go_wp2_with (first | ((with_reducible refine gate_callee (f := 52) rfl ?_); refine goesL_ (some 51) rfl rfl Try.func52 (by kernel_rfl) rfl #[.int .u64 x6_3] rfl (by (try simp only [List.map_toArray, List.map_cons, List.map_nil]); first | done | rfl | (simp only [List.length_drop, List.length_take]; rfl)) ?_; (with_reducible refine (lienref02_Num.calls k3 x6_3 t248 _ A14.out).mono ?_); rintro e w20 ⟨v249, rfl, ho0, hb⟩; refine ⟨_, rfl, ?_⟩; have n0_ := Aside0.mk (Kd.R_lower ho0 (below_size (by repeat (first | (with_reducible first | exact HB.out | apply below_alloc | apply pw_below_drewN | apply below_drew1) | exact HB.out)))); have n1_ := Aside0.mk (below_step (by repeat (first | (with_reducible first | exact HB.out | apply below_alloc | apply pw_below_drewN | apply below_drew1) | exact HB.out)) hb); clear HB; have HO250 := n0_; have HB := n1_; clear n0_ n1_; (try clear hb); (try clear hb2); (try clear hk); (try clear hi); (try clear ho0); obtain ⟨Ao21, co21, eo21⟩ := Kd.R_slice HO250.out; subst eo21) | ((with_reducible refine gate_dst (N := 58) rfl ?_); refine Kd.R_lit (Kd.int .u8) _ 5 ?hg (N := 58) ?hd (xs := ([] : List Int)) (inner := []) (ok := fun _ => True) (okp := fun _ => True) ?hr ?hp (fun _ hk => hk) trivial (Below.refl _ _) (Nat.le_refl _) (by simp) ?_; (case hd => rfl); (case hg => rfl); (case hr => first | (go_simp; done) | (go_simp; rfl)); (case hp => exact (Reps.none _ _)); intro v252 w22 ho23 hb hg_ hnew_; clear hg_ hnew_; (first | rw [← Ny251.out] at ho23 | (simp only [Int.reduceToNat] at ho23; rw [← Ny251.out] at ho23)); have n0_ := Aside0.mk (Kd.R_elder' (by (with_reducible repeat (first | apply Kd.R_alloc | apply Kd.R_drewN | apply Kd.R_drew)); exact HO250.out) (Kd.R_base ho23) hb); have n1_ := Aside0.mk (Kd.R_lower (Kd.R_new' ho23 (Kd.R_lt (by (with_reducible repeat (first | apply Kd.R_alloc | apply Kd.R_drewN | apply Kd.R_drew)); exact HO250.out))) (below_size (by repeat (first | (with_reducible first | exact HB.out | apply below_alloc | apply pw_below_drewN | apply below_drew1) | exact HB.out)))); have n2_ := Aside0.mk (below_step (by repeat (first | (with_reducible first | exact HB.out | apply below_alloc | apply pw_below_drewN | apply below_drew1) | exact HB.out)) hb); clear HO250; clear HB; have HO250 := n0_; have HO253 := n1_; have HB := n2_; clear n0_ n1_ n2_; clear hb ho23; obtain ⟨i024, hi024, _, hsz24, _⟩ := info_parts info5; obtain ⟨A24, hcut24, hA24, hC24⟩ := print_drop_of (P := Try.prog) (Value.int .u8) 0 44 5 .i64 Try.underlying44 hi024 hsz24 A0 c0 l0 (ji16) (of_decide_eq_true (by first | (with_reducible assumption) | assumption)) (of_decide_eq_true (by first | (with_reducible assumption) | assumption)) HC0.out; have HR254 := Aside0.mk (Kd.C_of_reads (h1 := fun _ => rfl) (hA24 _ (Kd.reads_of_C HR0.out))); have HC254 := Aside0.mk hC24; clear hA24 hC24 hi024 hsz24; (try have HLHR254 := Aside0.mk (show ((l0.drop ((ji16) : Int).toNat).length : Int) = (l0.length : Int) - (ji16) from by have h1_ : (ji16) ≤ (l0.length : Int) := of_decide_eq_true (by first | (with_reducible assumption) | assumption); have h0_ : 0 ≤ (ji16) := of_decide_eq_true (by first | (with_reducible assumption) | assumption); rw [List.length_drop]; omega)); (try have HLHR254m := Aside0.mk (show ((l0.drop ((ji16) : Int).toNat).length : Int) = max ((l0.length : Int) - (ji16)) 0 from by have h2_ := HLHR254.out; omega))) | ((with_reducible refine gate_builtin (b := .append) (xs := #[.tmp 58, .tmp 62]) rfl ?_); at_builtin; refine Kd.R_append_rows (Kd.int .u8) (w0 := w) w.heap.size rfl (.tmp 58) (.tmp 62) 44 5 (.int .u8 0) 1 rfl Try.underlying44 info5 rfl (by decide) (by omega) v252 y251 (l0.drop ((ji16) : Int).toNat) _ _ _ (fun k_ => some k_ ≠ (.slice Ao21 t248.length co21 : Value).ownBlock) (fun _ => False) rfl rfl ?aO ?aR (fun _ _ h => h) (fun _ h => h.elim) ?aF ?aB ?aS ?aL ?_; (case aR => first | (rw [← show (l0.drop ((ji16) : Int).toNat).length = (l0.length - (ji16).toNat) from List.length_drop]; repeat (first | exact (Kd.C_below HR254.out HB.out) | (with_reducible refine Kd.C_alloc ?_ _) | (with_reducible refine Kd.C_drewN ?_ _) | (with_reducible refine Kd.C_drew ?_))) | (repeat (first | exact (Kd.C_below HR254.out HB.out) | (with_reducible refine Kd.C_alloc ?_ _) | (with_reducible refine Kd.C_drewN ?_ _) | (with_reducible refine Kd.C_drew ?_)))); (case aB => exact (by repeat (first | (with_reducible first | exact HB.out | apply below_alloc | apply pw_below_drewN | apply below_drew1) | exact HB.out))); (case aF => exact (fun k_ hk => Kd.fresh' (Kd.R_lt (by (with_reducible repeat (first | apply Kd.R_alloc | apply Kd.R_drewN | apply Kd.R_drew)); exact HO250.out)) k_ hk)); (case aO => exact (by (with_reducible repeat (first | apply Kd.R_alloc | apply Kd.R_drewN | apply Kd.R_drew)); exact Kd.R_mono HO253.out (fun _ hk => hk.2))); (case aS => exact (below_size (by repeat (first | (with_reducible first | exact HB.out | apply below_alloc | apply pw_below_drewN | apply below_drew1) | exact HB.out)))); (case aL => have := LMc19.out; have hlx_ := (show (l0.drop ((ji16) : Int).toNat).length = (l0.length - (ji16).toNat) from List.length_drop); omega); intro v256 w25 ho hb hg hat; rw [← Ny255.out] at ho; have n0_ := Aside0.mk (Kd.R_after (ok := (fun _ => True)) (by (with_reducible repeat (first | apply Kd.R_alloc | apply Kd.R_drewN | apply Kd.R_drew)); exact HO250.out) hg hat); have n1_ := Aside0.mk (hb); have n2_ := Aside0.mk (ho); clear HO250; clear HB; clear HO253; have HO250 := n0_; have HB := n1_; have HO257 := n2_; clear n0_ n1_ n2_; clear ho hb hg hat))
                          go_ret3
                          exact ⟨_, by first | rfl | (simp [errW_none, errW_some] <;> rfl) | (simp only [← hji16]; first | rfl | (simp [errW_none, errW_some] <;> rfl)) | (simp [*, errW_none, errW_some] <;> rfl), by (with_reducible repeat (first | apply Kd.R_alloc | apply Kd.R_drewN | apply Kd.R_drew)); exact Kd.R_mono HO257.out (fun _ hk => trivial), by repeat (first | (with_reducible first | exact HB.out | apply below_alloc | apply pw_below_drewN | apply below_drew1) | exact HB.out)⟩
                        · rw [if_neg c19] at H
                          exact absurd H (by simp)
                      · rw [if_neg c18] at H
                        exact absurd H (by simp)
                    · rw [if_neg c17] at H
                      exact absurd H (by simp)
                  · rw [if_neg c15] at H
                    have c15b0 : ((t248.length : Int) == (wrap64 (x5_1 + 1))) = false := beq_eq_false_iff_ne.mpr c15
                    have c15b1 : ((t248.length : Int) != (wrap64 (x5_1 + 1))) = true := bne_iff_ne.mpr c15
                    simp only [Option.some.injEq, Prod.mk.injEq] at H
                    obtain ⟨rfl, rfl, rfl⟩ := H
                    go_wp2_with (first | ((with_reducible refine gate_callee (f := 52) rfl ?_); refine goesL_ (some 51) rfl rfl Try.func52 (by kernel_rfl) rfl #[.int .u64 x6_3] rfl (by (try simp only [List.map_toArray, List.map_cons, List.map_nil]); first | done | rfl | (simp only [List.length_drop, List.length_take]; rfl)) ?_; (with_reducible refine (lienref02_Num.calls k3 x6_3 t248 _ A14.out).mono ?_); rintro e w26 ⟨v249, rfl, ho0, hb⟩; refine ⟨_, rfl, ?_⟩; have n0_ := Aside0.mk (Kd.R_lower ho0 (below_size (by repeat (first | (with_reducible first | exact HB.out | apply below_alloc | apply pw_below_drewN | apply below_drew1) | exact HB.out)))); have n1_ := Aside0.mk (below_step (by repeat (first | (with_reducible first | exact HB.out | apply below_alloc | apply pw_below_drewN | apply below_drew1) | exact HB.out)) hb); clear HB; have HO250 := n0_; have HB := n1_; clear n0_ n1_; (try clear hb); (try clear hb2); (try clear hk); (try clear hi); (try clear ho0); obtain ⟨Ao27, co27, eo27⟩ := Kd.R_slice HO250.out; subst eo27))
                    go_ret3
                    exact ⟨_, by first | rfl | (simp [errW_none, errW_some] <;> rfl) | (simp [*, errW_none, errW_some] <;> rfl), by first | exact Kd.R_nil _ _ _ _ _ | exact Kd.N_nil _ _ _ _ _ | exact Kd.V_nil _ _ _ _ _ | exact Kd.Q_nil _ _ _ _ _ | exact Kd.S_nil _ _ _ _ _, by repeat (first | (with_reducible first | exact HB.out | apply below_alloc | apply pw_below_drewN | apply below_drew1) | exact HB.out)⟩
end Go.Proofs.Ytaodgncldakhgaa.PRightsBytes
