-- Written by wip/xprint of this repo (our own program) out of the translation; what is marked BY HAND is ours. Not trusted: Lean checks it.
import Derived.Test.YtklnnmgfoebbhaaPWireRepliesx0
import Derived.Test.YtklnnmgfoebbhaaPWireRepliesx1
import Derived.Test.YtklnnmgfoebbhaaPWireRepliesx2
import Derived.Test.YtklnnmgfoebbhaaPWireRepliesx3
import Derived.Test.YtklnnmgfoebbhaaPWireRepliesx4
import Derived.Test.YtklnnmgfoebbhaaPWireRepliesx5
namespace Go.Proofs.Ytklnnmgfoebbhaa.PWireReplies
open Go.RowKit Go.Proofs.YtklnnmgfoebbhaaW.PrintWords Go.Proofs.YtklnnmgfoebbhaaW.PrintLast Go.Proofs.YtklnnmgfoebbhaaW.PrintMore
attribute [local go_sem] max2_int min2_int max_two min_two max_three min_three max_four min_four   -- for this text's walks alone
set_option linter.unusedVariables false
set_option linter.unusedSimpArgs false

attribute [local go_sem high] eqA24 eqA43
/-! ### wire_Bytes: function 15 -/
-- BY HAND

def reqCells (a0 : Int) (a1 : ByteArray) (a2 : Int) (a3 : Int) (a4 : Int) (a5 : Int) (a6 : Int) : Array Value := #[.int .i64 a0, .string a1, .int .i64 a2, .int .i64 a3, .int .i64 a4, .int .i64 a5, .int .i64 a6]
def reqFlds (os : List Nat) (a0 : Int) (a1 : ByteArray) (a2 : Int) (a3 : Int) (a4 : Int) (a5 : Int) (a6 : Int) : List (Int ⊕ ByteArray) := os.map fun o => fldOf ((reqCells a0 a1 a2 a3 a4 a5 a6).getD o undef)
theorem cpy_req (os : List Nat) (a0 : Int) (a1 : ByteArray) (a2 : Int) (a3 : Int) (a4 : Int) (a5 : Int) (a6 : Int) (ho : reqOffs a0 = some os) : cpy os #[.int .i64 a0, .string a1, .int .i64 a2, .int .i64 a3, .int .i64 a4, .int .i64 a5, .int .i64 a6] #[.int .i64 a0, .string ⟨#[]⟩, .int .i64 0, .int .i64 0, .int .i64 0, .int .i64 0, .int .i64 0] = #[.int .i64 a0, .string (pickS os 1 a1), .int .i64 (pickN os 2 a2), .int .i64 (pickN os 3 a3), .int .i64 (pickN os 4 a4), .int .i64 (pickN os 5 a5), .int .i64 (pickN os 6 a6)] := by
  rcases reqOffs_cases ho with rfl | rfl | rfl | rfl | rfl | rfl | rfl | rfl <;> rfl
def reqPlain (os : List Nat) (a1 : ByteArray) (a2 : Int) (a3 : Int) (a4 : Int) (a5 : Int) (a6 : Int) : Bool := true && (((pickS os 1 a1).toList == a1.toList) && ((pickN os 2 a2 == a2) && ((pickN os 3 a3 == a3) && ((pickN os 4 a4 == a4) && ((pickN os 5 a5 == a5) && ((pickN os 6 a6 == a6)))))))
theorem typed_req (a0 : Int) (a1 : ByteArray) (a2 : Int) (a3 : Int) (a4 : Int) (a5 : Int) (a6 : Int) : Typed 1 #[.int .i64 a0, .string a1, .int .i64 a2, .int .i64 a3, .int .i64 a4, .int .i64 a5, .int .i64 a6] := by
  intro o ho
  match o, ho with
  | 0, _ => exact ⟨_, rfl⟩
  | 1, _ => exact ⟨_, rfl⟩
  | 2, _ => exact ⟨_, rfl⟩
  | 3, _ => exact ⟨_, rfl⟩
  | 4, _ => exact ⟨_, rfl⟩
  | 5, _ => exact ⟨_, rfl⟩
  | 6, _ => exact ⟨_, rfl⟩
  | o + 7, ho => exact absurd ho (by simp)
theorem offs_req {k : Int} {os : List Nat} (h : reqOffs k = some os) : (∀ o ∈ os, o < 7) ∧ os.length ≤ 8 := by
  rcases reqOffs_cases h with rfl | rfl | rfl | rfl | rfl | rfl | rfl | rfl <;> simp
theorem wneq_req (w : World) (x0 y0 : Int) (x1 y1 : ByteArray) (x2 y2 : Int) (x3 y3 : Int) (x4 y4 : Int) (x5 y5 : Int) (x6 y6 : Int) : (binOp .eql 37 (.agg #[.int .i64 x0, .string x1, .int .i64 x2, .int .i64 x3, .int .i64 x4, .int .i64 x5, .int .i64 x6]) (.agg #[.int .i64 y0, .string y1, .int .i64 y2, .int .i64 y3, .int .i64 y4, .int .i64 y5, .int .i64 y6])).run Try.prog w = .ok (.bool ((x0 == y0) && ((x1.toList == y1.toList) && ((x2 == y2) && ((x3 == y3) && ((x4 == y4) && ((x5 == y5) && ((x6 == y6))))))))) w := by
  simp only [binOp]
  rw [show Op.equal 37 = Op.equalIn (9998 + 2) 37 from rfl]
  simp only [Sem.run_bind, weqA37]
  rfl

theorem clBytes_bad (g g2 : Nat) (x : Int) (u : FrameMode) (v : Value) (w : World) (hx : x ≠ 0) (hc : w.heap[g]? = some (.cells #[.int .i64 x] 28 (0, 0))) (hc2 : w.heap[g2]? = some (.cells #[v] 25 (0, 0))) :
    CallsD Try.prog 38 #[.pointer (some ⟨g, 0, none⟩), .pointer (some ⟨g2, 0, none⟩)] u w fun e u' w' =>
      u' = u ∧ (e = .returned (.tuple #[]) ∧ w' = (w.setCell ⟨g2, 0, none⟩ (.slice none 0 0))) := by
  have h1 := blk_cell hc 0
  simp only [List.getElem?_toArray, List.getElem?_cons_zero] at h1
  have k0 := blk_cell hc2 0; have f0 := blk_frozen hc2 0; simp only [List.getElem?_toArray, List.getElem?_cons_zero, List.getElem?_cons_succ] at k0
  have hx1 : (x != 0) = true := by simpa using hx
  have hx2 : (x == 0) = false := by simpa using hx
  go_enter_d Try.func38, Try.ntmps38
  go_wp2
  go_end0
  exact ⟨rfl, rfl⟩
theorem clBytes_ok (g : Nat) (p : Addr) (u : FrameMode) (w : World) (hc : w.heap[g]? = some (.cells #[.int .i64 0] 28 (0, 0))) :
    CallsD Try.prog 38 #[.pointer (some ⟨g, 0, none⟩), .pointer (some p)] u w fun e u' w' =>
      u' = u ∧ (e = .returned (.tuple #[]) ∧ w' = w) := by
  have h1 := blk_cell hc 0
  simp only [List.getElem?_toArray, List.getElem?_cons_zero] at h1
  go_enter_d Try.func38, Try.ntmps38
  go_wp2
  go_end0
  exact ⟨rfl, rfl⟩

set_option maxHeartbeats 8000000 in
set_option maxRecDepth 100000 in
theorem wBytes_not (a0 : Int) (a1 : ByteArray) (a2 : Int) (a3 : Int) (a4 : Int) (a5 : Int) (a6 : Int) (w : World) (ho : reqOffs a0 = none) :
    Calls Try.prog 15 #[.agg #[.int .i64 a0, .string a1, .int .i64 a2, .int .i64 a3, .int .i64 a4, .int .i64 a5, .int .i64 a6]] w fun e w' => e = .returned (.tuple #[.slice none 0 0, .int .i64 220]) ∧ Below w.heap.size w w' := by
  have HB := Aside0.mk (Below.refl w.heap.size w)
  have hmf : ∀ (fn : Fn) (first cap : Array Value) (w : World), (Instr.makeFunc fn first cap).run Try.prog w = .ok (.func fn first cap) w := fun _ _ _ _ => rfl
  go_enter_defers Try.func15, Try.ntmps15
  go_wp2_with (first | ((with_reducible refine gate_dst (N := 1) rfl ?_); (try (refine gate_guard (by rfl) ?_; dsimp only)); refine box_event ?hg (N := 1) ?hd (cs := #[.int .i64 a0, .string a1, .int .i64 a2, .int .i64 a3, .int .i64 a4, .int .i64 a5, .int .i64 a6]) (t := 37) ?hr ?_; (case hd => rfl); (case hg => rfl); (case hr => first | (go_simp; done) | (go_simp; rfl)); intro g1 hg w1 hbox hb; have m0 := Aside0.mk (below_step (by repeat (first | (with_reducible first | exact HB.out | apply below_alloc | apply pw_below_drewN | apply below_drew1) | exact HB.out)) hb); have m1 := Aside0.mk hbox; have m2 := Aside0.mk ((by rw [hg]; exact (below_size (by repeat (first | (with_reducible first | exact HB.out | apply below_alloc | apply pw_below_drewN | apply below_drew1) | exact HB.out))) : w.heap.size ≤ g1)); clear HB ; have HB := m0; have B1 := m1; have G1 := m2; clear m0 m1 m2; clear hb hbox hg) | ((with_reducible refine gate_dst (N := 2) rfl ?_); (try (refine gate_guard (by rfl) ?_; dsimp only)); refine box_event ?hg (N := 2) ?hd (cs := #[.slice none 0 0]) (t := 25) ?hr ?_; (case hd => rfl); (case hg => rfl); (case hr => first | (go_simp; done) | (go_simp; rfl)); intro g2 hg w2 hbox hb; have m0 := Aside0.mk (below_step (by repeat (first | (with_reducible first | exact HB.out | apply below_alloc | apply pw_below_drewN | apply below_drew1) | exact HB.out)) hb); have m1 := Aside0.mk hbox; have m2 := Aside0.mk ((by rw [hg]; exact (below_size (by repeat (first | (with_reducible first | exact HB.out | apply below_alloc | apply pw_below_drewN | apply below_drew1) | exact HB.out))) : w.heap.size ≤ g2)); have m3 := Aside0.mk (blk_below (g := g1) (o := (.cells #[.int .i64 a0, .string a1, .int .i64 a2, .int .i64 a3, .int .i64 a4, .int .i64 a5, .int .i64 a6] 37 (0, 0))) (by (with_reducible repeat (first | refine blk_drewN ?_ _ | refine blk_drew ?_ | refine blk_alloc ?_ _)); exact B1.out) hb); have m4 := Aside0.mk ((by rw [hg]; exact (blk_lt (g := g1) (o := (.cells #[.int .i64 a0, .string a1, .int .i64 a2, .int .i64 a3, .int .i64 a4, .int .i64 a5, .int .i64 a6] 37 (0, 0))) (by (with_reducible repeat (first | refine blk_drewN ?_ _ | refine blk_drew ?_ | refine blk_alloc ?_ _)); exact B1.out))) : g1 < g2); clear HB B1; have HB := m0; have B2 := m1; have G2 := m2; have B1 := m3; have Ng1g2 := m4; clear m0 m1 m2 m3 m4; clear hb hbox hg) | ((with_reducible refine gate_dst (N := 3) rfl ?_); (try (refine gate_guard (by rfl) ?_; dsimp only)); refine box_event ?hg (N := 3) ?hd (cs := #[.int .i64 0]) (t := 28) ?hr ?_; (case hd => rfl); (case hg => rfl); (case hr => first | (go_simp; done) | (go_simp; rfl)); intro g3 hg w3 hbox hb; have m0 := Aside0.mk (below_step (by repeat (first | (with_reducible first | exact HB.out | apply below_alloc | apply pw_below_drewN | apply below_drew1) | exact HB.out)) hb); have m1 := Aside0.mk hbox; have m2 := Aside0.mk ((by rw [hg]; exact (below_size (by repeat (first | (with_reducible first | exact HB.out | apply below_alloc | apply pw_below_drewN | apply below_drew1) | exact HB.out))) : w.heap.size ≤ g3)); have m3 := Aside0.mk (blk_below (g := g1) (o := (.cells #[.int .i64 a0, .string a1, .int .i64 a2, .int .i64 a3, .int .i64 a4, .int .i64 a5, .int .i64 a6] 37 (0, 0))) (by (with_reducible repeat (first | refine blk_drewN ?_ _ | refine blk_drew ?_ | refine blk_alloc ?_ _)); exact B1.out) hb); have m4 := Aside0.mk ((by rw [hg]; exact (blk_lt (g := g1) (o := (.cells #[.int .i64 a0, .string a1, .int .i64 a2, .int .i64 a3, .int .i64 a4, .int .i64 a5, .int .i64 a6] 37 (0, 0))) (by (with_reducible repeat (first | refine blk_drewN ?_ _ | refine blk_drew ?_ | refine blk_alloc ?_ _)); exact B1.out))) : g1 < g3); have m5 := Aside0.mk (blk_below (g := g2) (o := (.cells #[.slice none 0 0] 25 (0, 0))) (by (with_reducible repeat (first | refine blk_drewN ?_ _ | refine blk_drew ?_ | refine blk_alloc ?_ _)); exact B2.out) hb); have m6 := Aside0.mk ((by rw [hg]; exact (blk_lt (g := g2) (o := (.cells #[.slice none 0 0] 25 (0, 0))) (by (with_reducible repeat (first | refine blk_drewN ?_ _ | refine blk_drew ?_ | refine blk_alloc ?_ _)); exact B2.out))) : g2 < g3); clear HB B1 B2; have HB := m0; have B3 := m1; have G3 := m2; have B1 := m3; have Ng1g3 := m4; have B2 := m5; have Ng2g3 := m6; clear m0 m1 m2 m3 m4 m5 m6; clear hb hbox hg))
  have hk1 : w3.cell? ⟨g1, 0, none⟩ = some (.int .i64 a0) := by
    have q := blk_cell B1.out 0
    simpa using q
  refine (wfi_not a0 ho g1 w3 hk1).mono ?_
  rintro e w4 ⟨rfl, rfl⟩
  go_wp2_with (first | ((with_reducible refine gate_dst (N := 5) rfl ?_); (try (refine gate_guard (by rfl) ?_; dsimp only)); refine box_event ?hg (N := 5) ?hd (cs := #[.int .i64 0, .string ⟨#[]⟩, .int .i64 0, .int .i64 0, .int .i64 0, .int .i64 0, .int .i64 0]) (t := 37) ?hr ?_; (case hd => rfl); (case hg => rfl); (case hr => first | (go_simp; done) | (go_simp; rfl)); intro g5 hg w5 hbox hb; have m0 := Aside0.mk (below_step (by repeat (first | (with_reducible first | exact HB.out | apply below_alloc | apply pw_below_drewN | apply below_drew1) | exact HB.out)) hb); have m1 := Aside0.mk hbox; have m2 := Aside0.mk ((by rw [hg]; exact (below_size (by repeat (first | (with_reducible first | exact HB.out | apply below_alloc | apply pw_below_drewN | apply below_drew1) | exact HB.out))) : w.heap.size ≤ g5)); have m3 := Aside0.mk (blk_below (g := g1) (o := (.cells #[.int .i64 a0, .string a1, .int .i64 a2, .int .i64 a3, .int .i64 a4, .int .i64 a5, .int .i64 a6] 37 (0, 0))) (by (with_reducible repeat (first | refine blk_drewN ?_ _ | refine blk_drew ?_ | refine blk_alloc ?_ _)); exact B1.out) hb); have m4 := Aside0.mk ((by rw [hg]; exact (blk_lt (g := g1) (o := (.cells #[.int .i64 a0, .string a1, .int .i64 a2, .int .i64 a3, .int .i64 a4, .int .i64 a5, .int .i64 a6] 37 (0, 0))) (by (with_reducible repeat (first | refine blk_drewN ?_ _ | refine blk_drew ?_ | refine blk_alloc ?_ _)); exact B1.out))) : g1 < g5); have m5 := Aside0.mk (blk_below (g := g2) (o := (.cells #[.slice none 0 0] 25 (0, 0))) (by (with_reducible repeat (first | refine blk_drewN ?_ _ | refine blk_drew ?_ | refine blk_alloc ?_ _)); exact B2.out) hb); have m6 := Aside0.mk ((by rw [hg]; exact (blk_lt (g := g2) (o := (.cells #[.slice none 0 0] 25 (0, 0))) (by (with_reducible repeat (first | refine blk_drewN ?_ _ | refine blk_drew ?_ | refine blk_alloc ?_ _)); exact B2.out))) : g2 < g5); have m7 := Aside0.mk (blk_below (g := g3) (o := (.cells #[.int .i64 0] 28 (0, 0))) (by (with_reducible repeat (first | refine blk_drewN ?_ _ | refine blk_drew ?_ | refine blk_alloc ?_ _)); exact B3.out) hb); have m8 := Aside0.mk ((by rw [hg]; exact (blk_lt (g := g3) (o := (.cells #[.int .i64 0] 28 (0, 0))) (by (with_reducible repeat (first | refine blk_drewN ?_ _ | refine blk_drew ?_ | refine blk_alloc ?_ _)); exact B3.out))) : g3 < g5); clear hk1; clear HB B1 B2 B3; have HB := m0; have B5 := m1; have G5 := m2; have B1 := m3; have Ng1g5 := m4; have B2 := m5; have Ng2g5 := m6; have B3 := m7; have Ng3g5 := m8; clear m0 m1 m2 m3 m4 m5 m6 m7 m8; clear hb hbox hg; have hcB50 := blk_cell B5.out 0; simp only [List.getElem?_toArray, List.getElem?_cons_zero, List.getElem?_cons_succ] at hcB50; have hfB50 := blk_frozen B5.out 0; have hcB51 := blk_cell B5.out 1; simp only [List.getElem?_toArray, List.getElem?_cons_zero, List.getElem?_cons_succ] at hcB51; have hfB51 := blk_frozen B5.out 1; have hcB52 := blk_cell B5.out 2; simp only [List.getElem?_toArray, List.getElem?_cons_zero, List.getElem?_cons_succ] at hcB52; have hfB52 := blk_frozen B5.out 2; have hcB53 := blk_cell B5.out 3; simp only [List.getElem?_toArray, List.getElem?_cons_zero, List.getElem?_cons_succ] at hcB53; have hfB53 := blk_frozen B5.out 3; have hcB54 := blk_cell B5.out 4; simp only [List.getElem?_toArray, List.getElem?_cons_zero, List.getElem?_cons_succ] at hcB54; have hfB54 := blk_frozen B5.out 4; have hcB55 := blk_cell B5.out 5; simp only [List.getElem?_toArray, List.getElem?_cons_zero, List.getElem?_cons_succ] at hcB55; have hfB55 := blk_frozen B5.out 5; have hcB56 := blk_cell B5.out 6; simp only [List.getElem?_toArray, List.getElem?_cons_zero, List.getElem?_cons_succ] at hcB56; have hfB56 := blk_frozen B5.out 6))
  have m5 := (blk_put (cs' := #[.int .i64 a0, .string ⟨#[]⟩, .int .i64 0, .int .i64 0, .int .i64 0, .int .i64 0, .int .i64 0]) (blk_put (cs' := #[.int .i64 a0, .string ⟨#[]⟩, .int .i64 0, .int .i64 0, .int .i64 0, .int .i64 0, .int .i64 0]) (blk_put (cs' := #[.int .i64 a0, .string ⟨#[]⟩, .int .i64 0, .int .i64 0, .int .i64 0, .int .i64 0, .int .i64 0]) (blk_put (cs' := #[.int .i64 a0, .string ⟨#[]⟩, .int .i64 0, .int .i64 0, .int .i64 0, .int .i64 0, .int .i64 0]) (blk_put (cs' := #[.int .i64 a0, .string ⟨#[]⟩, .int .i64 0, .int .i64 0, .int .i64 0, .int .i64 0, .int .i64 0]) (blk_put (cs' := #[.int .i64 a0, .string ⟨#[]⟩, .int .i64 0, .int .i64 0, .int .i64 0, .int .i64 0, .int .i64 0]) (blk_put (cs' := #[.int .i64 a0, .string ⟨#[]⟩, .int .i64 0, .int .i64 0, .int .i64 0, .int .i64 0, .int .i64 0]) B5.out 0 (.int .i64 a0) rfl) 1 (.string ⟨#[]⟩) rfl) 2 (.int .i64 0) rfl) 3 (.int .i64 0) rfl) 4 (.int .i64 0) rfl) 5 (.int .i64 0) rfl) 6 (.int .i64 0) rfl)
  have m1 := (blk_far (p := ⟨g5, 6, none⟩) (blk_far (p := ⟨g5, 5, none⟩) (blk_far (p := ⟨g5, 4, none⟩) (blk_far (p := ⟨g5, 3, none⟩) (blk_far (p := ⟨g5, 2, none⟩) (blk_far (p := ⟨g5, 1, none⟩) (blk_far (p := ⟨g5, 0, none⟩) B1.out (Nat.ne_of_lt Ng1g5.out) (.int .i64 a0)) (Nat.ne_of_lt Ng1g5.out) (.string ⟨#[]⟩)) (Nat.ne_of_lt Ng1g5.out) (.int .i64 0)) (Nat.ne_of_lt Ng1g5.out) (.int .i64 0)) (Nat.ne_of_lt Ng1g5.out) (.int .i64 0)) (Nat.ne_of_lt Ng1g5.out) (.int .i64 0)) (Nat.ne_of_lt Ng1g5.out) (.int .i64 0))
  have m2 := (blk_far (p := ⟨g5, 6, none⟩) (blk_far (p := ⟨g5, 5, none⟩) (blk_far (p := ⟨g5, 4, none⟩) (blk_far (p := ⟨g5, 3, none⟩) (blk_far (p := ⟨g5, 2, none⟩) (blk_far (p := ⟨g5, 1, none⟩) (blk_far (p := ⟨g5, 0, none⟩) B2.out (Nat.ne_of_lt Ng2g5.out) (.int .i64 a0)) (Nat.ne_of_lt Ng2g5.out) (.string ⟨#[]⟩)) (Nat.ne_of_lt Ng2g5.out) (.int .i64 0)) (Nat.ne_of_lt Ng2g5.out) (.int .i64 0)) (Nat.ne_of_lt Ng2g5.out) (.int .i64 0)) (Nat.ne_of_lt Ng2g5.out) (.int .i64 0)) (Nat.ne_of_lt Ng2g5.out) (.int .i64 0))
  have m3 := (blk_far (p := ⟨g5, 6, none⟩) (blk_far (p := ⟨g5, 5, none⟩) (blk_far (p := ⟨g5, 4, none⟩) (blk_far (p := ⟨g5, 3, none⟩) (blk_far (p := ⟨g5, 2, none⟩) (blk_far (p := ⟨g5, 1, none⟩) (blk_far (p := ⟨g5, 0, none⟩) B3.out (Nat.ne_of_lt Ng3g5.out) (.int .i64 a0)) (Nat.ne_of_lt Ng3g5.out) (.string ⟨#[]⟩)) (Nat.ne_of_lt Ng3g5.out) (.int .i64 0)) (Nat.ne_of_lt Ng3g5.out) (.int .i64 0)) (Nat.ne_of_lt Ng3g5.out) (.int .i64 0)) (Nat.ne_of_lt Ng3g5.out) (.int .i64 0)) (Nat.ne_of_lt Ng3g5.out) (.int .i64 0))
  have m0 := (((((((HB.out.setCell (p := ⟨g5, 0, none⟩) G5.out (.int .i64 a0)).setCell (p := ⟨g5, 1, none⟩) G5.out (.string ⟨#[]⟩)).setCell (p := ⟨g5, 2, none⟩) G5.out (.int .i64 0)).setCell (p := ⟨g5, 3, none⟩) G5.out (.int .i64 0)).setCell (p := ⟨g5, 4, none⟩) G5.out (.int .i64 0)).setCell (p := ⟨g5, 5, none⟩) G5.out (.int .i64 0)).setCell (p := ⟨g5, 6, none⟩) G5.out (.int .i64 0))
  clear HB B1 B2 B3 B5 hcB50 hfB50 hcB51 hfB51 hcB52 hfB52 hcB53 hfB53 hcB54 hfB54 hcB55 hfB55 hcB56 hfB56
  generalize (((((((w5.setCell ⟨g5, 0, none⟩ (.int .i64 a0)).setCell ⟨g5, 1, none⟩ (.string ⟨#[]⟩)).setCell ⟨g5, 2, none⟩ (.int .i64 0)).setCell ⟨g5, 3, none⟩ (.int .i64 0)).setCell ⟨g5, 4, none⟩ (.int .i64 0)).setCell ⟨g5, 5, none⟩ (.int .i64 0)).setCell ⟨g5, 6, none⟩ (.int .i64 0)) = w6 at m0 m1 m2 m3 m5 ⊢
  have hk5 : w6.cell? ⟨g5, 0, none⟩ = some (.int .i64 a0) := by
    have q := blk_cell m5 0
    simpa using q
  refine (wfi_not a0 ho g5 w6 hk5).mono ?_
  rintro e w7 ⟨rfl, rfl⟩
  have hnn := fun (w : World) => run_neq_slice_nil_any (P := Try.prog) w 52 20 none 0 0 0 0 Try.underlying52
  clear hk5
  go_wp2_with (first | ((go_at_call 26); (with_reducible refine (wcopied_nil _).mono ?_); rintro e wm ⟨rfl, rfl⟩) | ((go_at_call 27); (with_reducible refine (must_bad _).mono ?_); rintro e wm ⟨rfl, rfl⟩))
  refine doorB_bad 38 clBytes_bad (fun _ _ _ => by simp [go_sem]) Try.f15 rfl _ g2 g3 w.heap.size rfl rfl 0 (.slice none 0 0) w _ m0 (below_size m0) G2.out G3.out m2 m3 _ ?_
  intro w' hb
  exact ⟨rfl, hb⟩

set_option maxHeartbeats 8000000 in
set_option maxRecDepth 100000 in
theorem wBytes_odd (os : List Nat) (a0 : Int) (a1 : ByteArray) (a2 : Int) (a3 : Int) (a4 : Int) (a5 : Int) (a6 : Int) (w : World) (ho : reqOffs a0 = some os) (hpl : reqPlain os a1 a2 a3 a4 a5 a6 = false) :
    Calls Try.prog 15 #[.agg #[.int .i64 a0, .string a1, .int .i64 a2, .int .i64 a3, .int .i64 a4, .int .i64 a5, .int .i64 a6]] w fun e w' => e = .returned (.tuple #[.slice none 0 0, .int .i64 220]) ∧ Below w.heap.size w w' := by
  have HB := Aside0.mk (Below.refl w.heap.size w)
  have hmf : ∀ (fn : Fn) (first cap : Array Value) (w : World), (Instr.makeFunc fn first cap).run Try.prog w = .ok (.func fn first cap) w := fun _ _ _ _ => rfl
  have HOS := Aside0.mk ho
  have HPL := Aside0.mk hpl
  clear ho hpl
  go_enter_defers Try.func15, Try.ntmps15
  go_wp2_with (first | ((with_reducible refine gate_dst (N := 1) rfl ?_); (try (refine gate_guard (by rfl) ?_; dsimp only)); refine box_event ?hg (N := 1) ?hd (cs := #[.int .i64 a0, .string a1, .int .i64 a2, .int .i64 a3, .int .i64 a4, .int .i64 a5, .int .i64 a6]) (t := 37) ?hr ?_; (case hd => rfl); (case hg => rfl); (case hr => first | (go_simp; done) | (go_simp; rfl)); intro g1 hg w1 hbox hb; have m0 := Aside0.mk (below_step (by repeat (first | (with_reducible first | exact HB.out | apply below_alloc | apply pw_below_drewN | apply below_drew1) | exact HB.out)) hb); have m1 := Aside0.mk hbox; have m2 := Aside0.mk ((by rw [hg]; exact (below_size (by repeat (first | (with_reducible first | exact HB.out | apply below_alloc | apply pw_below_drewN | apply below_drew1) | exact HB.out))) : w.heap.size ≤ g1)); clear HB ; have HB := m0; have B1 := m1; have G1 := m2; clear m0 m1 m2; clear hb hbox hg) | ((with_reducible refine gate_dst (N := 2) rfl ?_); (try (refine gate_guard (by rfl) ?_; dsimp only)); refine box_event ?hg (N := 2) ?hd (cs := #[.slice none 0 0]) (t := 25) ?hr ?_; (case hd => rfl); (case hg => rfl); (case hr => first | (go_simp; done) | (go_simp; rfl)); intro g2 hg w2 hbox hb; have m0 := Aside0.mk (below_step (by repeat (first | (with_reducible first | exact HB.out | apply below_alloc | apply pw_below_drewN | apply below_drew1) | exact HB.out)) hb); have m1 := Aside0.mk hbox; have m2 := Aside0.mk ((by rw [hg]; exact (below_size (by repeat (first | (with_reducible first | exact HB.out | apply below_alloc | apply pw_below_drewN | apply below_drew1) | exact HB.out))) : w.heap.size ≤ g2)); have m3 := Aside0.mk (blk_below (g := g1) (o := (.cells #[.int .i64 a0, .string a1, .int .i64 a2, .int .i64 a3, .int .i64 a4, .int .i64 a5, .int .i64 a6] 37 (0, 0))) (by (with_reducible repeat (first | refine blk_drewN ?_ _ | refine blk_drew ?_ | refine blk_alloc ?_ _)); exact B1.out) hb); have m4 := Aside0.mk ((by rw [hg]; exact (blk_lt (g := g1) (o := (.cells #[.int .i64 a0, .string a1, .int .i64 a2, .int .i64 a3, .int .i64 a4, .int .i64 a5, .int .i64 a6] 37 (0, 0))) (by (with_reducible repeat (first | refine blk_drewN ?_ _ | refine blk_drew ?_ | refine blk_alloc ?_ _)); exact B1.out))) : g1 < g2); clear HB B1; have HB := m0; have B2 := m1; have G2 := m2; have B1 := m3; have Ng1g2 := m4; clear m0 m1 m2 m3 m4; clear hb hbox hg) | ((with_reducible refine gate_dst (N := 3) rfl ?_); (try (refine gate_guard (by rfl) ?_; dsimp only)); refine box_event ?hg (N := 3) ?hd (cs := #[.int .i64 0]) (t := 28) ?hr ?_; (case hd => rfl); (case hg => rfl); (case hr => first | (go_simp; done) | (go_simp; rfl)); intro g3 hg w3 hbox hb; have m0 := Aside0.mk (below_step (by repeat (first | (with_reducible first | exact HB.out | apply below_alloc | apply pw_below_drewN | apply below_drew1) | exact HB.out)) hb); have m1 := Aside0.mk hbox; have m2 := Aside0.mk ((by rw [hg]; exact (below_size (by repeat (first | (with_reducible first | exact HB.out | apply below_alloc | apply pw_below_drewN | apply below_drew1) | exact HB.out))) : w.heap.size ≤ g3)); have m3 := Aside0.mk (blk_below (g := g1) (o := (.cells #[.int .i64 a0, .string a1, .int .i64 a2, .int .i64 a3, .int .i64 a4, .int .i64 a5, .int .i64 a6] 37 (0, 0))) (by (with_reducible repeat (first | refine blk_drewN ?_ _ | refine blk_drew ?_ | refine blk_alloc ?_ _)); exact B1.out) hb); have m4 := Aside0.mk ((by rw [hg]; exact (blk_lt (g := g1) (o := (.cells #[.int .i64 a0, .string a1, .int .i64 a2, .int .i64 a3, .int .i64 a4, .int .i64 a5, .int .i64 a6] 37 (0, 0))) (by (with_reducible repeat (first | refine blk_drewN ?_ _ | refine blk_drew ?_ | refine blk_alloc ?_ _)); exact B1.out))) : g1 < g3); have m5 := Aside0.mk (blk_below (g := g2) (o := (.cells #[.slice none 0 0] 25 (0, 0))) (by (with_reducible repeat (first | refine blk_drewN ?_ _ | refine blk_drew ?_ | refine blk_alloc ?_ _)); exact B2.out) hb); have m6 := Aside0.mk ((by rw [hg]; exact (blk_lt (g := g2) (o := (.cells #[.slice none 0 0] 25 (0, 0))) (by (with_reducible repeat (first | refine blk_drewN ?_ _ | refine blk_drew ?_ | refine blk_alloc ?_ _)); exact B2.out))) : g2 < g3); clear HB B1 B2; have HB := m0; have B3 := m1; have G3 := m2; have B1 := m3; have Ng1g3 := m4; have B2 := m5; have Ng2g3 := m6; clear m0 m1 m2 m3 m4 m5 m6; clear hb hbox hg))
  have hk1 : w3.cell? ⟨g1, 0, none⟩ = some (.int .i64 a0) := by
    have q := blk_cell B1.out 0
    simpa using q
  refine (wfi_some a0 os HOS.out g1 w3 hk1).mono ?_
  rintro e w4 ⟨L1, rfl, hb, hL, hlb⟩
  have BL := Aside0.mk hlb
  clear hk1
  have m0 := Aside0.mk (below_step (by repeat (first | (with_reducible first | exact HB.out | apply below_alloc | apply pw_below_drewN | apply below_drew1) | exact HB.out)) hb)
  have m1 := Aside0.mk (blk_below (g := g1) (o := (.cells #[.int .i64 a0, .string a1, .int .i64 a2, .int .i64 a3, .int .i64 a4, .int .i64 a5, .int .i64 a6] 37 (0, 0))) (by (with_reducible repeat (first | refine blk_drewN ?_ _ | refine blk_drew ?_ | refine blk_alloc ?_ _)); exact B1.out) hb)
  have m2 := Aside0.mk (blk_below (g := g2) (o := (.cells #[.slice none 0 0] 25 (0, 0))) (by (with_reducible repeat (first | refine blk_drewN ?_ _ | refine blk_drew ?_ | refine blk_alloc ?_ _)); exact B2.out) hb)
  have m3 := Aside0.mk (blk_below (g := g3) (o := (.cells #[.int .i64 0] 28 (0, 0))) (by (with_reducible repeat (first | refine blk_drewN ?_ _ | refine blk_drew ?_ | refine blk_alloc ?_ _)); exact B3.out) hb)
  clear HB B1 B2 B3
  have HB := m0
  have B1 := m1
  have B2 := m2
  have B3 := m3
  clear m0 m1 m2 m3
  clear hb hL hlb
  have hk1 := blk_cell B1.out 0
  simp only [List.getElem?_toArray, List.getElem?_cons_zero, List.getElem?_cons_succ] at hk1
  go_wp2_with (first | ((with_reducible refine gate_dst (N := 5) rfl ?_); (try (refine gate_guard (by rfl) ?_; dsimp only)); refine box_event ?hg (N := 5) ?hd (cs := #[.int .i64 0, .string ⟨#[]⟩, .int .i64 0, .int .i64 0, .int .i64 0, .int .i64 0, .int .i64 0]) (t := 37) ?hr ?_; (case hd => rfl); (case hg => rfl); (case hr => first | (go_simp; done) | (go_simp; rfl)); intro g5 hg w5 hbox hb; have m0 := Aside0.mk (below_step (by repeat (first | (with_reducible first | exact HB.out | apply below_alloc | apply pw_below_drewN | apply below_drew1) | exact HB.out)) hb); have m1 := Aside0.mk hbox; have m2 := Aside0.mk ((by rw [hg]; exact (below_size (by repeat (first | (with_reducible first | exact HB.out | apply below_alloc | apply pw_below_drewN | apply below_drew1) | exact HB.out))) : w.heap.size ≤ g5)); have m3 := Aside0.mk (blk_below (g := g1) (o := (.cells #[.int .i64 a0, .string a1, .int .i64 a2, .int .i64 a3, .int .i64 a4, .int .i64 a5, .int .i64 a6] 37 (0, 0))) (by (with_reducible repeat (first | refine blk_drewN ?_ _ | refine blk_drew ?_ | refine blk_alloc ?_ _)); exact B1.out) hb); have m4 := Aside0.mk ((by rw [hg]; exact (blk_lt (g := g1) (o := (.cells #[.int .i64 a0, .string a1, .int .i64 a2, .int .i64 a3, .int .i64 a4, .int .i64 a5, .int .i64 a6] 37 (0, 0))) (by (with_reducible repeat (first | refine blk_drewN ?_ _ | refine blk_drew ?_ | refine blk_alloc ?_ _)); exact B1.out))) : g1 < g5); have m5 := Aside0.mk (blk_below (g := g2) (o := (.cells #[.slice none 0 0] 25 (0, 0))) (by (with_reducible repeat (first | refine blk_drewN ?_ _ | refine blk_drew ?_ | refine blk_alloc ?_ _)); exact B2.out) hb); have m6 := Aside0.mk ((by rw [hg]; exact (blk_lt (g := g2) (o := (.cells #[.slice none 0 0] 25 (0, 0))) (by (with_reducible repeat (first | refine blk_drewN ?_ _ | refine blk_drew ?_ | refine blk_alloc ?_ _)); exact B2.out))) : g2 < g5); have m7 := Aside0.mk (blk_below (g := g3) (o := (.cells #[.int .i64 0] 28 (0, 0))) (by (with_reducible repeat (first | refine blk_drewN ?_ _ | refine blk_drew ?_ | refine blk_alloc ?_ _)); exact B3.out) hb); have m8 := Aside0.mk ((by rw [hg]; exact (blk_lt (g := g3) (o := (.cells #[.int .i64 0] 28 (0, 0))) (by (with_reducible repeat (first | refine blk_drewN ?_ _ | refine blk_drew ?_ | refine blk_alloc ?_ _)); exact B3.out))) : g3 < g5); have m9 := Aside0.mk (blk_below (g := L1) (o := (lob (fps 1 g1 os))) (by (with_reducible repeat (first | refine blk_drewN ?_ _ | refine blk_drew ?_ | refine blk_alloc ?_ _)); exact BL.out) hb); have m10 := Aside0.mk ((by rw [hg]; exact (blk_lt (g := L1) (o := (lob (fps 1 g1 os))) (by (with_reducible repeat (first | refine blk_drewN ?_ _ | refine blk_drew ?_ | refine blk_alloc ?_ _)); exact BL.out))) : L1 < g5); clear hk1; clear HB B1 B2 B3 BL; have HB := m0; have B5 := m1; have G5 := m2; have B1 := m3; have Ng1g5 := m4; have B2 := m5; have Ng2g5 := m6; have B3 := m7; have Ng3g5 := m8; have BL := m9; have NL1g5 := m10; clear m0 m1 m2 m3 m4 m5 m6 m7 m8 m9 m10; clear hb hbox hg; have hcB50 := blk_cell B5.out 0; simp only [List.getElem?_toArray, List.getElem?_cons_zero, List.getElem?_cons_succ] at hcB50; have hfB50 := blk_frozen B5.out 0; have hcB51 := blk_cell B5.out 1; simp only [List.getElem?_toArray, List.getElem?_cons_zero, List.getElem?_cons_succ] at hcB51; have hfB51 := blk_frozen B5.out 1; have hcB52 := blk_cell B5.out 2; simp only [List.getElem?_toArray, List.getElem?_cons_zero, List.getElem?_cons_succ] at hcB52; have hfB52 := blk_frozen B5.out 2; have hcB53 := blk_cell B5.out 3; simp only [List.getElem?_toArray, List.getElem?_cons_zero, List.getElem?_cons_succ] at hcB53; have hfB53 := blk_frozen B5.out 3; have hcB54 := blk_cell B5.out 4; simp only [List.getElem?_toArray, List.getElem?_cons_zero, List.getElem?_cons_succ] at hcB54; have hfB54 := blk_frozen B5.out 4; have hcB55 := blk_cell B5.out 5; simp only [List.getElem?_toArray, List.getElem?_cons_zero, List.getElem?_cons_succ] at hcB55; have hfB55 := blk_frozen B5.out 5; have hcB56 := blk_cell B5.out 6; simp only [List.getElem?_toArray, List.getElem?_cons_zero, List.getElem?_cons_succ] at hcB56; have hfB56 := blk_frozen B5.out 6))
  have m5 := (blk_put (cs' := #[.int .i64 a0, .string ⟨#[]⟩, .int .i64 0, .int .i64 0, .int .i64 0, .int .i64 0, .int .i64 0]) (blk_put (cs' := #[.int .i64 a0, .string ⟨#[]⟩, .int .i64 0, .int .i64 0, .int .i64 0, .int .i64 0, .int .i64 0]) (blk_put (cs' := #[.int .i64 a0, .string ⟨#[]⟩, .int .i64 0, .int .i64 0, .int .i64 0, .int .i64 0, .int .i64 0]) (blk_put (cs' := #[.int .i64 a0, .string ⟨#[]⟩, .int .i64 0, .int .i64 0, .int .i64 0, .int .i64 0, .int .i64 0]) (blk_put (cs' := #[.int .i64 a0, .string ⟨#[]⟩, .int .i64 0, .int .i64 0, .int .i64 0, .int .i64 0, .int .i64 0]) (blk_put (cs' := #[.int .i64 a0, .string ⟨#[]⟩, .int .i64 0, .int .i64 0, .int .i64 0, .int .i64 0, .int .i64 0]) (blk_put (cs' := #[.int .i64 a0, .string ⟨#[]⟩, .int .i64 0, .int .i64 0, .int .i64 0, .int .i64 0, .int .i64 0]) B5.out 0 (.int .i64 a0) rfl) 1 (.string ⟨#[]⟩) rfl) 2 (.int .i64 0) rfl) 3 (.int .i64 0) rfl) 4 (.int .i64 0) rfl) 5 (.int .i64 0) rfl) 6 (.int .i64 0) rfl)
  have m1 := (blk_far (p := ⟨g5, 6, none⟩) (blk_far (p := ⟨g5, 5, none⟩) (blk_far (p := ⟨g5, 4, none⟩) (blk_far (p := ⟨g5, 3, none⟩) (blk_far (p := ⟨g5, 2, none⟩) (blk_far (p := ⟨g5, 1, none⟩) (blk_far (p := ⟨g5, 0, none⟩) B1.out (Nat.ne_of_lt Ng1g5.out) (.int .i64 a0)) (Nat.ne_of_lt Ng1g5.out) (.string ⟨#[]⟩)) (Nat.ne_of_lt Ng1g5.out) (.int .i64 0)) (Nat.ne_of_lt Ng1g5.out) (.int .i64 0)) (Nat.ne_of_lt Ng1g5.out) (.int .i64 0)) (Nat.ne_of_lt Ng1g5.out) (.int .i64 0)) (Nat.ne_of_lt Ng1g5.out) (.int .i64 0))
  have m2 := (blk_far (p := ⟨g5, 6, none⟩) (blk_far (p := ⟨g5, 5, none⟩) (blk_far (p := ⟨g5, 4, none⟩) (blk_far (p := ⟨g5, 3, none⟩) (blk_far (p := ⟨g5, 2, none⟩) (blk_far (p := ⟨g5, 1, none⟩) (blk_far (p := ⟨g5, 0, none⟩) B2.out (Nat.ne_of_lt Ng2g5.out) (.int .i64 a0)) (Nat.ne_of_lt Ng2g5.out) (.string ⟨#[]⟩)) (Nat.ne_of_lt Ng2g5.out) (.int .i64 0)) (Nat.ne_of_lt Ng2g5.out) (.int .i64 0)) (Nat.ne_of_lt Ng2g5.out) (.int .i64 0)) (Nat.ne_of_lt Ng2g5.out) (.int .i64 0)) (Nat.ne_of_lt Ng2g5.out) (.int .i64 0))
  have m3 := (blk_far (p := ⟨g5, 6, none⟩) (blk_far (p := ⟨g5, 5, none⟩) (blk_far (p := ⟨g5, 4, none⟩) (blk_far (p := ⟨g5, 3, none⟩) (blk_far (p := ⟨g5, 2, none⟩) (blk_far (p := ⟨g5, 1, none⟩) (blk_far (p := ⟨g5, 0, none⟩) B3.out (Nat.ne_of_lt Ng3g5.out) (.int .i64 a0)) (Nat.ne_of_lt Ng3g5.out) (.string ⟨#[]⟩)) (Nat.ne_of_lt Ng3g5.out) (.int .i64 0)) (Nat.ne_of_lt Ng3g5.out) (.int .i64 0)) (Nat.ne_of_lt Ng3g5.out) (.int .i64 0)) (Nat.ne_of_lt Ng3g5.out) (.int .i64 0)) (Nat.ne_of_lt Ng3g5.out) (.int .i64 0))
  have ml := (blk_far (p := ⟨g5, 6, none⟩) (blk_far (p := ⟨g5, 5, none⟩) (blk_far (p := ⟨g5, 4, none⟩) (blk_far (p := ⟨g5, 3, none⟩) (blk_far (p := ⟨g5, 2, none⟩) (blk_far (p := ⟨g5, 1, none⟩) (blk_far (p := ⟨g5, 0, none⟩) BL.out (Nat.ne_of_lt NL1g5.out) (.int .i64 a0)) (Nat.ne_of_lt NL1g5.out) (.string ⟨#[]⟩)) (Nat.ne_of_lt NL1g5.out) (.int .i64 0)) (Nat.ne_of_lt NL1g5.out) (.int .i64 0)) (Nat.ne_of_lt NL1g5.out) (.int .i64 0)) (Nat.ne_of_lt NL1g5.out) (.int .i64 0)) (Nat.ne_of_lt NL1g5.out) (.int .i64 0))
  have m0 := (((((((HB.out.setCell (p := ⟨g5, 0, none⟩) G5.out (.int .i64 a0)).setCell (p := ⟨g5, 1, none⟩) G5.out (.string ⟨#[]⟩)).setCell (p := ⟨g5, 2, none⟩) G5.out (.int .i64 0)).setCell (p := ⟨g5, 3, none⟩) G5.out (.int .i64 0)).setCell (p := ⟨g5, 4, none⟩) G5.out (.int .i64 0)).setCell (p := ⟨g5, 5, none⟩) G5.out (.int .i64 0)).setCell (p := ⟨g5, 6, none⟩) G5.out (.int .i64 0))
  clear HB B1 B2 B3 B5 BL hcB50 hfB50 hcB51 hfB51 hcB52 hfB52 hcB53 hfB53 hcB54 hfB54 hcB55 hfB55 hcB56 hfB56
  generalize (((((((w5.setCell ⟨g5, 0, none⟩ (.int .i64 a0)).setCell ⟨g5, 1, none⟩ (.string ⟨#[]⟩)).setCell ⟨g5, 2, none⟩ (.int .i64 0)).setCell ⟨g5, 3, none⟩ (.int .i64 0)).setCell ⟨g5, 4, none⟩ (.int .i64 0)).setCell ⟨g5, 5, none⟩ (.int .i64 0)).setCell ⟨g5, 6, none⟩ (.int .i64 0)) = w6 at m0 m1 m2 m3 m5 ml ⊢
  have hk5 : w6.cell? ⟨g5, 0, none⟩ = some (.int .i64 a0) := by
    have q := blk_cell m5 0
    simpa using q
  refine (wfi_some a0 os HOS.out g5 w6 hk5).mono ?_
  rintro e w7 ⟨L2, rfl, hb, hL, hlb⟩
  have N15 := Aside0.mk (Nat.ne_of_lt Ng1g5.out)
  have hcp := wcopied 1 g1 g5 L2 L1 37 os #[.int .i64 a0, .string a1, .int .i64 a2, .int .i64 a3, .int .i64 a4, .int .i64 a5, .int .i64 a6] #[.int .i64 a0, .string ⟨#[]⟩, .int .i64 0, .int .i64 0, .int .i64 0, .int .i64 0, .int .i64 0] w7 hlb (blk_below ml hb) (blk_below m1 hb) (blk_below m5 hb) (Nat.ne_of_lt Ng1g5.out) (by decide) (typed_req a0 a1 a2 a3 a4 a5 a6) (offs_req HOS.out).1 rfl (offs_req HOS.out).2
  have HB := Aside0.mk (below_step m0 hb)
  have B1 := Aside0.mk (blk_below m1 hb)
  have B2 := Aside0.mk (blk_below m2 hb)
  have B3 := Aside0.mk (blk_below m3 hb)
  have BL := Aside0.mk (blk_below ml hb)
  clear m0 m1 m2 m3 m5 ml hb hL hlb hk5
  go_wp2_with (fail)
  refine hcp.mono ?_
  clear hcp
  rintro e w8 ⟨rfl, h5, hfar, hbw⟩
  have q1 := (hfar g1 N15.out).trans B1.out
  have q2 := (hfar g2 (Nat.ne_of_lt Ng2g5.out)).trans B2.out
  have q3 := (hfar g3 (Nat.ne_of_lt Ng3g5.out)).trans B3.out
  have ql := (hfar L1 (Nat.ne_of_lt NL1g5.out)).trans BL.out
  have q0 := HB.out.trans (hbw w.heap.size G5.out)
  rw [cpy_req os a0 a1 a2 a3 a4 a5 a6 HOS.out] at h5
  clear HB B1 B2 B3 BL hfar hbw
  have HB := Aside0.mk q0
  have B1 := Aside0.mk q1
  have B2 := Aside0.mk q2
  have B3 := Aside0.mk q3
  have BL := Aside0.mk ql
  have hEq : ∀ w, (binOp .eql 37 (.agg #[.int .i64 a0, .string (pickS os 1 a1), .int .i64 (pickN os 2 a2), .int .i64 (pickN os 3 a3), .int .i64 (pickN os 4 a4), .int .i64 (pickN os 5 a5), .int .i64 (pickN os 6 a6)]) (.agg #[.int .i64 a0, .string a1, .int .i64 a2, .int .i64 a3, .int .i64 a4, .int .i64 a5, .int .i64 a6])).run Try.prog w = .ok (.bool false) w := by
    intro w
    rw [wneq_req, ← HPL.out]
    simp [reqPlain]
  obtain ⟨p1, hp1⟩ : ∃ p, pickS os 1 a1 = p := ⟨_, rfl⟩
  obtain ⟨p2, hp2⟩ : ∃ p, pickN os 2 a2 = p := ⟨_, rfl⟩
  obtain ⟨p3, hp3⟩ : ∃ p, pickN os 3 a3 = p := ⟨_, rfl⟩
  obtain ⟨p4, hp4⟩ : ∃ p, pickN os 4 a4 = p := ⟨_, rfl⟩
  obtain ⟨p5, hp5⟩ : ∃ p, pickN os 5 a5 = p := ⟨_, rfl⟩
  obtain ⟨p6, hp6⟩ : ∃ p, pickN os 6 a6 = p := ⟨_, rfl⟩
  simp only [hp1, hp2, hp3, hp4, hp5, hp6] at h5 hEq
  clear q0 q1 q2 q3 ql hp1 hp2 hp3 hp4 hp5 hp6
  have B5 := Aside0.mk h5
  clear h5
  have hcB50 := blk_cell B5.out 0
  simp only [List.getElem?_toArray, List.getElem?_cons_zero, List.getElem?_cons_succ] at hcB50
  have hcB51 := blk_cell B5.out 1
  simp only [List.getElem?_toArray, List.getElem?_cons_zero, List.getElem?_cons_succ] at hcB51
  have hcB52 := blk_cell B5.out 2
  simp only [List.getElem?_toArray, List.getElem?_cons_zero, List.getElem?_cons_succ] at hcB52
  have hcB53 := blk_cell B5.out 3
  simp only [List.getElem?_toArray, List.getElem?_cons_zero, List.getElem?_cons_succ] at hcB53
  have hcB54 := blk_cell B5.out 4
  simp only [List.getElem?_toArray, List.getElem?_cons_zero, List.getElem?_cons_succ] at hcB54
  have hcB55 := blk_cell B5.out 5
  simp only [List.getElem?_toArray, List.getElem?_cons_zero, List.getElem?_cons_succ] at hcB55
  have hcB56 := blk_cell B5.out 6
  simp only [List.getElem?_toArray, List.getElem?_cons_zero, List.getElem?_cons_succ] at hcB56
  have hcB10 := blk_cell B1.out 0
  simp only [List.getElem?_toArray, List.getElem?_cons_zero, List.getElem?_cons_succ] at hcB10
  have hcB11 := blk_cell B1.out 1
  simp only [List.getElem?_toArray, List.getElem?_cons_zero, List.getElem?_cons_succ] at hcB11
  have hcB12 := blk_cell B1.out 2
  simp only [List.getElem?_toArray, List.getElem?_cons_zero, List.getElem?_cons_succ] at hcB12
  have hcB13 := blk_cell B1.out 3
  simp only [List.getElem?_toArray, List.getElem?_cons_zero, List.getElem?_cons_succ] at hcB13
  have hcB14 := blk_cell B1.out 4
  simp only [List.getElem?_toArray, List.getElem?_cons_zero, List.getElem?_cons_succ] at hcB14
  have hcB15 := blk_cell B1.out 5
  simp only [List.getElem?_toArray, List.getElem?_cons_zero, List.getElem?_cons_succ] at hcB15
  have hcB16 := blk_cell B1.out 6
  simp only [List.getElem?_toArray, List.getElem?_cons_zero, List.getElem?_cons_succ] at hcB16
  have hnn := fun (w : World) => run_neq_slice_nil_any (P := Try.prog) w 52 20 (some ⟨L1, 0, none⟩) os.length os.length 0 0 Try.underlying52
  go_wp2_with (first | ((go_at_call 27); (with_reducible refine (must_bad _).mono ?_); rintro e wm ⟨rfl, rfl⟩))
  refine doorB_bad 38 clBytes_bad (fun _ _ _ => by simp [go_sem]) Try.f15 rfl _ g2 g3 w.heap.size rfl rfl 0 (.slice none 0 0) w _ HB.out (below_size HB.out) G2.out G3.out B2.out B3.out _ ?_
  intro w' hb
  exact ⟨rfl, hb⟩

set_option maxHeartbeats 8000000 in
set_option maxRecDepth 100000 in
theorem wBytes_some (k : Nat) (os : List Nat) (t0 : List Int) (RES : Option (List Int)) (a0 : Int) (a1 : ByteArray) (a2 : Int) (a3 : Int) (a4 : Int) (a5 : Int) (a6 : Int) (w : World) (ho : reqOffs a0 = some os) (hpl : reqPlain os a1 a2 a3 a4 a5 a6 = true) (ht : code_Num.f k (IntKind.u64.wrap a0) = some t0) (hres : wireWr k (reqFlds os a0 a1 a2 a3 a4 a5 a6) t0 = some RES) :
    Calls Try.prog 15 #[.agg #[.int .i64 a0, .string a1, .int .i64 a2, .int .i64 a3, .int .i64 a4, .int .i64 a5, .int .i64 a6]] w fun e w' => ((∃ r v, RES = some r ∧ e = .returned (.tuple #[v, .int .i64 0]) ∧ Kd.R (Kd.int .u8) 5 w' w.heap.size (fun _ => True) v r) ∨ (RES = none ∧ e = .returned (.tuple #[.slice none 0 0, .int .i64 220]))) ∧ Below w.heap.size w w' := by
  have HB := Aside0.mk (Below.refl w.heap.size w)
  have hmf : ∀ (fn : Fn) (first cap : Array Value) (w : World), (Instr.makeFunc fn first cap).run Try.prog w = .ok (.func fn first cap) w := fun _ _ _ _ => rfl
  have HOS := Aside0.mk ho
  have HPL := Aside0.mk hpl
  have HT := Aside0.mk ht
  have HRES := Aside0.mk hres
  clear ho hpl ht hres
  go_enter_defers Try.func15, Try.ntmps15
  go_wp2_with (first | ((with_reducible refine gate_dst (N := 1) rfl ?_); (try (refine gate_guard (by rfl) ?_; dsimp only)); refine box_event ?hg (N := 1) ?hd (cs := #[.int .i64 a0, .string a1, .int .i64 a2, .int .i64 a3, .int .i64 a4, .int .i64 a5, .int .i64 a6]) (t := 37) ?hr ?_; (case hd => rfl); (case hg => rfl); (case hr => first | (go_simp; done) | (go_simp; rfl)); intro g1 hg w1 hbox hb; have m0 := Aside0.mk (below_step (by repeat (first | (with_reducible first | exact HB.out | apply below_alloc | apply pw_below_drewN | apply below_drew1) | exact HB.out)) hb); have m1 := Aside0.mk hbox; have m2 := Aside0.mk ((by rw [hg]; exact (below_size (by repeat (first | (with_reducible first | exact HB.out | apply below_alloc | apply pw_below_drewN | apply below_drew1) | exact HB.out))) : w.heap.size ≤ g1)); clear HB ; have HB := m0; have B1 := m1; have G1 := m2; clear m0 m1 m2; clear hb hbox hg) | ((with_reducible refine gate_dst (N := 2) rfl ?_); (try (refine gate_guard (by rfl) ?_; dsimp only)); refine box_event ?hg (N := 2) ?hd (cs := #[.slice none 0 0]) (t := 25) ?hr ?_; (case hd => rfl); (case hg => rfl); (case hr => first | (go_simp; done) | (go_simp; rfl)); intro g2 hg w2 hbox hb; have m0 := Aside0.mk (below_step (by repeat (first | (with_reducible first | exact HB.out | apply below_alloc | apply pw_below_drewN | apply below_drew1) | exact HB.out)) hb); have m1 := Aside0.mk hbox; have m2 := Aside0.mk ((by rw [hg]; exact (below_size (by repeat (first | (with_reducible first | exact HB.out | apply below_alloc | apply pw_below_drewN | apply below_drew1) | exact HB.out))) : w.heap.size ≤ g2)); have m3 := Aside0.mk (blk_below (g := g1) (o := (.cells #[.int .i64 a0, .string a1, .int .i64 a2, .int .i64 a3, .int .i64 a4, .int .i64 a5, .int .i64 a6] 37 (0, 0))) (by (with_reducible repeat (first | refine blk_drewN ?_ _ | refine blk_drew ?_ | refine blk_alloc ?_ _)); exact B1.out) hb); have m4 := Aside0.mk ((by rw [hg]; exact (blk_lt (g := g1) (o := (.cells #[.int .i64 a0, .string a1, .int .i64 a2, .int .i64 a3, .int .i64 a4, .int .i64 a5, .int .i64 a6] 37 (0, 0))) (by (with_reducible repeat (first | refine blk_drewN ?_ _ | refine blk_drew ?_ | refine blk_alloc ?_ _)); exact B1.out))) : g1 < g2); clear HB B1; have HB := m0; have B2 := m1; have G2 := m2; have B1 := m3; have Ng1g2 := m4; clear m0 m1 m2 m3 m4; clear hb hbox hg) | ((with_reducible refine gate_dst (N := 3) rfl ?_); (try (refine gate_guard (by rfl) ?_; dsimp only)); refine box_event ?hg (N := 3) ?hd (cs := #[.int .i64 0]) (t := 28) ?hr ?_; (case hd => rfl); (case hg => rfl); (case hr => first | (go_simp; done) | (go_simp; rfl)); intro g3 hg w3 hbox hb; have m0 := Aside0.mk (below_step (by repeat (first | (with_reducible first | exact HB.out | apply below_alloc | apply pw_below_drewN | apply below_drew1) | exact HB.out)) hb); have m1 := Aside0.mk hbox; have m2 := Aside0.mk ((by rw [hg]; exact (below_size (by repeat (first | (with_reducible first | exact HB.out | apply below_alloc | apply pw_below_drewN | apply below_drew1) | exact HB.out))) : w.heap.size ≤ g3)); have m3 := Aside0.mk (blk_below (g := g1) (o := (.cells #[.int .i64 a0, .string a1, .int .i64 a2, .int .i64 a3, .int .i64 a4, .int .i64 a5, .int .i64 a6] 37 (0, 0))) (by (with_reducible repeat (first | refine blk_drewN ?_ _ | refine blk_drew ?_ | refine blk_alloc ?_ _)); exact B1.out) hb); have m4 := Aside0.mk ((by rw [hg]; exact (blk_lt (g := g1) (o := (.cells #[.int .i64 a0, .string a1, .int .i64 a2, .int .i64 a3, .int .i64 a4, .int .i64 a5, .int .i64 a6] 37 (0, 0))) (by (with_reducible repeat (first | refine blk_drewN ?_ _ | refine blk_drew ?_ | refine blk_alloc ?_ _)); exact B1.out))) : g1 < g3); have m5 := Aside0.mk (blk_below (g := g2) (o := (.cells #[.slice none 0 0] 25 (0, 0))) (by (with_reducible repeat (first | refine blk_drewN ?_ _ | refine blk_drew ?_ | refine blk_alloc ?_ _)); exact B2.out) hb); have m6 := Aside0.mk ((by rw [hg]; exact (blk_lt (g := g2) (o := (.cells #[.slice none 0 0] 25 (0, 0))) (by (with_reducible repeat (first | refine blk_drewN ?_ _ | refine blk_drew ?_ | refine blk_alloc ?_ _)); exact B2.out))) : g2 < g3); clear HB B1 B2; have HB := m0; have B3 := m1; have G3 := m2; have B1 := m3; have Ng1g3 := m4; have B2 := m5; have Ng2g3 := m6; clear m0 m1 m2 m3 m4 m5 m6; clear hb hbox hg))
  have hk1 : w3.cell? ⟨g1, 0, none⟩ = some (.int .i64 a0) := by
    have q := blk_cell B1.out 0
    simpa using q
  refine (wfi_some a0 os HOS.out g1 w3 hk1).mono ?_
  rintro e w4 ⟨L1, rfl, hb, hL, hlb⟩
  have BL := Aside0.mk hlb
  clear hk1
  have m0 := Aside0.mk (below_step (by repeat (first | (with_reducible first | exact HB.out | apply below_alloc | apply pw_below_drewN | apply below_drew1) | exact HB.out)) hb)
  have m1 := Aside0.mk (blk_below (g := g1) (o := (.cells #[.int .i64 a0, .string a1, .int .i64 a2, .int .i64 a3, .int .i64 a4, .int .i64 a5, .int .i64 a6] 37 (0, 0))) (by (with_reducible repeat (first | refine blk_drewN ?_ _ | refine blk_drew ?_ | refine blk_alloc ?_ _)); exact B1.out) hb)
  have m2 := Aside0.mk (blk_below (g := g2) (o := (.cells #[.slice none 0 0] 25 (0, 0))) (by (with_reducible repeat (first | refine blk_drewN ?_ _ | refine blk_drew ?_ | refine blk_alloc ?_ _)); exact B2.out) hb)
  have m3 := Aside0.mk (blk_below (g := g3) (o := (.cells #[.int .i64 0] 28 (0, 0))) (by (with_reducible repeat (first | refine blk_drewN ?_ _ | refine blk_drew ?_ | refine blk_alloc ?_ _)); exact B3.out) hb)
  clear HB B1 B2 B3
  have HB := m0
  have B1 := m1
  have B2 := m2
  have B3 := m3
  clear m0 m1 m2 m3
  clear hb hL hlb
  have hk1 := blk_cell B1.out 0
  simp only [List.getElem?_toArray, List.getElem?_cons_zero, List.getElem?_cons_succ] at hk1
  go_wp2_with (first | ((with_reducible refine gate_dst (N := 5) rfl ?_); (try (refine gate_guard (by rfl) ?_; dsimp only)); refine box_event ?hg (N := 5) ?hd (cs := #[.int .i64 0, .string ⟨#[]⟩, .int .i64 0, .int .i64 0, .int .i64 0, .int .i64 0, .int .i64 0]) (t := 37) ?hr ?_; (case hd => rfl); (case hg => rfl); (case hr => first | (go_simp; done) | (go_simp; rfl)); intro g5 hg w5 hbox hb; have m0 := Aside0.mk (below_step (by repeat (first | (with_reducible first | exact HB.out | apply below_alloc | apply pw_below_drewN | apply below_drew1) | exact HB.out)) hb); have m1 := Aside0.mk hbox; have m2 := Aside0.mk ((by rw [hg]; exact (below_size (by repeat (first | (with_reducible first | exact HB.out | apply below_alloc | apply pw_below_drewN | apply below_drew1) | exact HB.out))) : w.heap.size ≤ g5)); have m3 := Aside0.mk (blk_below (g := g1) (o := (.cells #[.int .i64 a0, .string a1, .int .i64 a2, .int .i64 a3, .int .i64 a4, .int .i64 a5, .int .i64 a6] 37 (0, 0))) (by (with_reducible repeat (first | refine blk_drewN ?_ _ | refine blk_drew ?_ | refine blk_alloc ?_ _)); exact B1.out) hb); have m4 := Aside0.mk ((by rw [hg]; exact (blk_lt (g := g1) (o := (.cells #[.int .i64 a0, .string a1, .int .i64 a2, .int .i64 a3, .int .i64 a4, .int .i64 a5, .int .i64 a6] 37 (0, 0))) (by (with_reducible repeat (first | refine blk_drewN ?_ _ | refine blk_drew ?_ | refine blk_alloc ?_ _)); exact B1.out))) : g1 < g5); have m5 := Aside0.mk (blk_below (g := g2) (o := (.cells #[.slice none 0 0] 25 (0, 0))) (by (with_reducible repeat (first | refine blk_drewN ?_ _ | refine blk_drew ?_ | refine blk_alloc ?_ _)); exact B2.out) hb); have m6 := Aside0.mk ((by rw [hg]; exact (blk_lt (g := g2) (o := (.cells #[.slice none 0 0] 25 (0, 0))) (by (with_reducible repeat (first | refine blk_drewN ?_ _ | refine blk_drew ?_ | refine blk_alloc ?_ _)); exact B2.out))) : g2 < g5); have m7 := Aside0.mk (blk_below (g := g3) (o := (.cells #[.int .i64 0] 28 (0, 0))) (by (with_reducible repeat (first | refine blk_drewN ?_ _ | refine blk_drew ?_ | refine blk_alloc ?_ _)); exact B3.out) hb); have m8 := Aside0.mk ((by rw [hg]; exact (blk_lt (g := g3) (o := (.cells #[.int .i64 0] 28 (0, 0))) (by (with_reducible repeat (first | refine blk_drewN ?_ _ | refine blk_drew ?_ | refine blk_alloc ?_ _)); exact B3.out))) : g3 < g5); have m9 := Aside0.mk (blk_below (g := L1) (o := (lob (fps 1 g1 os))) (by (with_reducible repeat (first | refine blk_drewN ?_ _ | refine blk_drew ?_ | refine blk_alloc ?_ _)); exact BL.out) hb); have m10 := Aside0.mk ((by rw [hg]; exact (blk_lt (g := L1) (o := (lob (fps 1 g1 os))) (by (with_reducible repeat (first | refine blk_drewN ?_ _ | refine blk_drew ?_ | refine blk_alloc ?_ _)); exact BL.out))) : L1 < g5); clear hk1; clear HB B1 B2 B3 BL; have HB := m0; have B5 := m1; have G5 := m2; have B1 := m3; have Ng1g5 := m4; have B2 := m5; have Ng2g5 := m6; have B3 := m7; have Ng3g5 := m8; have BL := m9; have NL1g5 := m10; clear m0 m1 m2 m3 m4 m5 m6 m7 m8 m9 m10; clear hb hbox hg; have hcB50 := blk_cell B5.out 0; simp only [List.getElem?_toArray, List.getElem?_cons_zero, List.getElem?_cons_succ] at hcB50; have hfB50 := blk_frozen B5.out 0; have hcB51 := blk_cell B5.out 1; simp only [List.getElem?_toArray, List.getElem?_cons_zero, List.getElem?_cons_succ] at hcB51; have hfB51 := blk_frozen B5.out 1; have hcB52 := blk_cell B5.out 2; simp only [List.getElem?_toArray, List.getElem?_cons_zero, List.getElem?_cons_succ] at hcB52; have hfB52 := blk_frozen B5.out 2; have hcB53 := blk_cell B5.out 3; simp only [List.getElem?_toArray, List.getElem?_cons_zero, List.getElem?_cons_succ] at hcB53; have hfB53 := blk_frozen B5.out 3; have hcB54 := blk_cell B5.out 4; simp only [List.getElem?_toArray, List.getElem?_cons_zero, List.getElem?_cons_succ] at hcB54; have hfB54 := blk_frozen B5.out 4; have hcB55 := blk_cell B5.out 5; simp only [List.getElem?_toArray, List.getElem?_cons_zero, List.getElem?_cons_succ] at hcB55; have hfB55 := blk_frozen B5.out 5; have hcB56 := blk_cell B5.out 6; simp only [List.getElem?_toArray, List.getElem?_cons_zero, List.getElem?_cons_succ] at hcB56; have hfB56 := blk_frozen B5.out 6))
  have m5 := (blk_put (cs' := #[.int .i64 a0, .string ⟨#[]⟩, .int .i64 0, .int .i64 0, .int .i64 0, .int .i64 0, .int .i64 0]) (blk_put (cs' := #[.int .i64 a0, .string ⟨#[]⟩, .int .i64 0, .int .i64 0, .int .i64 0, .int .i64 0, .int .i64 0]) (blk_put (cs' := #[.int .i64 a0, .string ⟨#[]⟩, .int .i64 0, .int .i64 0, .int .i64 0, .int .i64 0, .int .i64 0]) (blk_put (cs' := #[.int .i64 a0, .string ⟨#[]⟩, .int .i64 0, .int .i64 0, .int .i64 0, .int .i64 0, .int .i64 0]) (blk_put (cs' := #[.int .i64 a0, .string ⟨#[]⟩, .int .i64 0, .int .i64 0, .int .i64 0, .int .i64 0, .int .i64 0]) (blk_put (cs' := #[.int .i64 a0, .string ⟨#[]⟩, .int .i64 0, .int .i64 0, .int .i64 0, .int .i64 0, .int .i64 0]) (blk_put (cs' := #[.int .i64 a0, .string ⟨#[]⟩, .int .i64 0, .int .i64 0, .int .i64 0, .int .i64 0, .int .i64 0]) B5.out 0 (.int .i64 a0) rfl) 1 (.string ⟨#[]⟩) rfl) 2 (.int .i64 0) rfl) 3 (.int .i64 0) rfl) 4 (.int .i64 0) rfl) 5 (.int .i64 0) rfl) 6 (.int .i64 0) rfl)
  have m1 := (blk_far (p := ⟨g5, 6, none⟩) (blk_far (p := ⟨g5, 5, none⟩) (blk_far (p := ⟨g5, 4, none⟩) (blk_far (p := ⟨g5, 3, none⟩) (blk_far (p := ⟨g5, 2, none⟩) (blk_far (p := ⟨g5, 1, none⟩) (blk_far (p := ⟨g5, 0, none⟩) B1.out (Nat.ne_of_lt Ng1g5.out) (.int .i64 a0)) (Nat.ne_of_lt Ng1g5.out) (.string ⟨#[]⟩)) (Nat.ne_of_lt Ng1g5.out) (.int .i64 0)) (Nat.ne_of_lt Ng1g5.out) (.int .i64 0)) (Nat.ne_of_lt Ng1g5.out) (.int .i64 0)) (Nat.ne_of_lt Ng1g5.out) (.int .i64 0)) (Nat.ne_of_lt Ng1g5.out) (.int .i64 0))
  have m2 := (blk_far (p := ⟨g5, 6, none⟩) (blk_far (p := ⟨g5, 5, none⟩) (blk_far (p := ⟨g5, 4, none⟩) (blk_far (p := ⟨g5, 3, none⟩) (blk_far (p := ⟨g5, 2, none⟩) (blk_far (p := ⟨g5, 1, none⟩) (blk_far (p := ⟨g5, 0, none⟩) B2.out (Nat.ne_of_lt Ng2g5.out) (.int .i64 a0)) (Nat.ne_of_lt Ng2g5.out) (.string ⟨#[]⟩)) (Nat.ne_of_lt Ng2g5.out) (.int .i64 0)) (Nat.ne_of_lt Ng2g5.out) (.int .i64 0)) (Nat.ne_of_lt Ng2g5.out) (.int .i64 0)) (Nat.ne_of_lt Ng2g5.out) (.int .i64 0)) (Nat.ne_of_lt Ng2g5.out) (.int .i64 0))
  have m3 := (blk_far (p := ⟨g5, 6, none⟩) (blk_far (p := ⟨g5, 5, none⟩) (blk_far (p := ⟨g5, 4, none⟩) (blk_far (p := ⟨g5, 3, none⟩) (blk_far (p := ⟨g5, 2, none⟩) (blk_far (p := ⟨g5, 1, none⟩) (blk_far (p := ⟨g5, 0, none⟩) B3.out (Nat.ne_of_lt Ng3g5.out) (.int .i64 a0)) (Nat.ne_of_lt Ng3g5.out) (.string ⟨#[]⟩)) (Nat.ne_of_lt Ng3g5.out) (.int .i64 0)) (Nat.ne_of_lt Ng3g5.out) (.int .i64 0)) (Nat.ne_of_lt Ng3g5.out) (.int .i64 0)) (Nat.ne_of_lt Ng3g5.out) (.int .i64 0)) (Nat.ne_of_lt Ng3g5.out) (.int .i64 0))
  have ml := (blk_far (p := ⟨g5, 6, none⟩) (blk_far (p := ⟨g5, 5, none⟩) (blk_far (p := ⟨g5, 4, none⟩) (blk_far (p := ⟨g5, 3, none⟩) (blk_far (p := ⟨g5, 2, none⟩) (blk_far (p := ⟨g5, 1, none⟩) (blk_far (p := ⟨g5, 0, none⟩) BL.out (Nat.ne_of_lt NL1g5.out) (.int .i64 a0)) (Nat.ne_of_lt NL1g5.out) (.string ⟨#[]⟩)) (Nat.ne_of_lt NL1g5.out) (.int .i64 0)) (Nat.ne_of_lt NL1g5.out) (.int .i64 0)) (Nat.ne_of_lt NL1g5.out) (.int .i64 0)) (Nat.ne_of_lt NL1g5.out) (.int .i64 0)) (Nat.ne_of_lt NL1g5.out) (.int .i64 0))
  have m0 := (((((((HB.out.setCell (p := ⟨g5, 0, none⟩) G5.out (.int .i64 a0)).setCell (p := ⟨g5, 1, none⟩) G5.out (.string ⟨#[]⟩)).setCell (p := ⟨g5, 2, none⟩) G5.out (.int .i64 0)).setCell (p := ⟨g5, 3, none⟩) G5.out (.int .i64 0)).setCell (p := ⟨g5, 4, none⟩) G5.out (.int .i64 0)).setCell (p := ⟨g5, 5, none⟩) G5.out (.int .i64 0)).setCell (p := ⟨g5, 6, none⟩) G5.out (.int .i64 0))
  clear HB B1 B2 B3 B5 BL hcB50 hfB50 hcB51 hfB51 hcB52 hfB52 hcB53 hfB53 hcB54 hfB54 hcB55 hfB55 hcB56 hfB56
  generalize (((((((w5.setCell ⟨g5, 0, none⟩ (.int .i64 a0)).setCell ⟨g5, 1, none⟩ (.string ⟨#[]⟩)).setCell ⟨g5, 2, none⟩ (.int .i64 0)).setCell ⟨g5, 3, none⟩ (.int .i64 0)).setCell ⟨g5, 4, none⟩ (.int .i64 0)).setCell ⟨g5, 5, none⟩ (.int .i64 0)).setCell ⟨g5, 6, none⟩ (.int .i64 0)) = w6 at m0 m1 m2 m3 m5 ml ⊢
  have hk5 : w6.cell? ⟨g5, 0, none⟩ = some (.int .i64 a0) := by
    have q := blk_cell m5 0
    simpa using q
  refine (wfi_some a0 os HOS.out g5 w6 hk5).mono ?_
  rintro e w7 ⟨L2, rfl, hb, hL, hlb⟩
  have N15 := Aside0.mk (Nat.ne_of_lt Ng1g5.out)
  have hcp := wcopied 1 g1 g5 L2 L1 37 os #[.int .i64 a0, .string a1, .int .i64 a2, .int .i64 a3, .int .i64 a4, .int .i64 a5, .int .i64 a6] #[.int .i64 a0, .string ⟨#[]⟩, .int .i64 0, .int .i64 0, .int .i64 0, .int .i64 0, .int .i64 0] w7 hlb (blk_below ml hb) (blk_below m1 hb) (blk_below m5 hb) (Nat.ne_of_lt Ng1g5.out) (by decide) (typed_req a0 a1 a2 a3 a4 a5 a6) (offs_req HOS.out).1 rfl (offs_req HOS.out).2
  have HB := Aside0.mk (below_step m0 hb)
  have B1 := Aside0.mk (blk_below m1 hb)
  have B2 := Aside0.mk (blk_below m2 hb)
  have B3 := Aside0.mk (blk_below m3 hb)
  have BL := Aside0.mk (blk_below ml hb)
  clear m0 m1 m2 m3 m5 ml hb hL hlb hk5
  go_wp2_with (fail)
  refine hcp.mono ?_
  clear hcp
  rintro e w8 ⟨rfl, h5, hfar, hbw⟩
  have q1 := (hfar g1 N15.out).trans B1.out
  have q2 := (hfar g2 (Nat.ne_of_lt Ng2g5.out)).trans B2.out
  have q3 := (hfar g3 (Nat.ne_of_lt Ng3g5.out)).trans B3.out
  have ql := (hfar L1 (Nat.ne_of_lt NL1g5.out)).trans BL.out
  have q0 := HB.out.trans (hbw w.heap.size G5.out)
  rw [cpy_req os a0 a1 a2 a3 a4 a5 a6 HOS.out] at h5
  clear HB B1 B2 B3 BL hfar hbw
  have HB := Aside0.mk q0
  have B1 := Aside0.mk q1
  have B2 := Aside0.mk q2
  have B3 := Aside0.mk q3
  have BL := Aside0.mk ql
  have hEq : ∀ w, (binOp .eql 37 (.agg #[.int .i64 a0, .string (pickS os 1 a1), .int .i64 (pickN os 2 a2), .int .i64 (pickN os 3 a3), .int .i64 (pickN os 4 a4), .int .i64 (pickN os 5 a5), .int .i64 (pickN os 6 a6)]) (.agg #[.int .i64 a0, .string a1, .int .i64 a2, .int .i64 a3, .int .i64 a4, .int .i64 a5, .int .i64 a6])).run Try.prog w = .ok (.bool true) w := by
    intro w
    rw [wneq_req, ← HPL.out]
    simp [reqPlain]
  obtain ⟨p1, hp1⟩ : ∃ p, pickS os 1 a1 = p := ⟨_, rfl⟩
  obtain ⟨p2, hp2⟩ : ∃ p, pickN os 2 a2 = p := ⟨_, rfl⟩
  obtain ⟨p3, hp3⟩ : ∃ p, pickN os 3 a3 = p := ⟨_, rfl⟩
  obtain ⟨p4, hp4⟩ : ∃ p, pickN os 4 a4 = p := ⟨_, rfl⟩
  obtain ⟨p5, hp5⟩ : ∃ p, pickN os 5 a5 = p := ⟨_, rfl⟩
  obtain ⟨p6, hp6⟩ : ∃ p, pickN os 6 a6 = p := ⟨_, rfl⟩
  simp only [hp1, hp2, hp3, hp4, hp5, hp6] at h5 hEq
  clear q0 q1 q2 q3 ql hp1 hp2 hp3 hp4 hp5 hp6
  have B5 := Aside0.mk h5
  clear h5
  have hcB50 := blk_cell B5.out 0
  simp only [List.getElem?_toArray, List.getElem?_cons_zero, List.getElem?_cons_succ] at hcB50
  have hcB51 := blk_cell B5.out 1
  simp only [List.getElem?_toArray, List.getElem?_cons_zero, List.getElem?_cons_succ] at hcB51
  have hcB52 := blk_cell B5.out 2
  simp only [List.getElem?_toArray, List.getElem?_cons_zero, List.getElem?_cons_succ] at hcB52
  have hcB53 := blk_cell B5.out 3
  simp only [List.getElem?_toArray, List.getElem?_cons_zero, List.getElem?_cons_succ] at hcB53
  have hcB54 := blk_cell B5.out 4
  simp only [List.getElem?_toArray, List.getElem?_cons_zero, List.getElem?_cons_succ] at hcB54
  have hcB55 := blk_cell B5.out 5
  simp only [List.getElem?_toArray, List.getElem?_cons_zero, List.getElem?_cons_succ] at hcB55
  have hcB56 := blk_cell B5.out 6
  simp only [List.getElem?_toArray, List.getElem?_cons_zero, List.getElem?_cons_succ] at hcB56
  have hcB10 := blk_cell B1.out 0
  simp only [List.getElem?_toArray, List.getElem?_cons_zero, List.getElem?_cons_succ] at hcB10
  have hcB11 := blk_cell B1.out 1
  simp only [List.getElem?_toArray, List.getElem?_cons_zero, List.getElem?_cons_succ] at hcB11
  have hcB12 := blk_cell B1.out 2
  simp only [List.getElem?_toArray, List.getElem?_cons_zero, List.getElem?_cons_succ] at hcB12
  have hcB13 := blk_cell B1.out 3
  simp only [List.getElem?_toArray, List.getElem?_cons_zero, List.getElem?_cons_succ] at hcB13
  have hcB14 := blk_cell B1.out 4
  simp only [List.getElem?_toArray, List.getElem?_cons_zero, List.getElem?_cons_succ] at hcB14
  have hcB15 := blk_cell B1.out 5
  simp only [List.getElem?_toArray, List.getElem?_cons_zero, List.getElem?_cons_succ] at hcB15
  have hcB16 := blk_cell B1.out 6
  simp only [List.getElem?_toArray, List.getElem?_cons_zero, List.getElem?_cons_succ] at hcB16
  have hnn := fun (w : World) => run_neq_slice_nil_any (P := Try.prog) w 52 20 (some ⟨L1, 0, none⟩) os.length os.length 0 0 Try.underlying52
  go_wp2_with (first | ((go_at_call 27); (with_reducible refine (must_ok _).mono ?_); rintro e wm ⟨rfl, rfl⟩) | ((with_reducible refine gate_callee (f := 29) rfl ?_); refine goesL_ (some 25) rfl rfl Try.func29 (by kernel_rfl) rfl #[.int .u64 (IntKind.u64.wrap a0)] rfl (by (try simp only [List.map_toArray, List.map_cons, List.map_nil]); first | done | rfl) ?_; (with_reducible refine (code_Num.calls k (IntKind.u64.wrap a0) t0 _ HT.out).mono ?_); rintro e w9 ⟨v9, rfl, hrow, hb⟩; refine ⟨_, rfl, ?_⟩; have HROW := Aside0.mk (Kd.R_lower hrow (below_size HB.out)); have m9 := Aside0.mk (blk_below BL.out hb); clear hcB10 hcB11 hcB12 hcB13 hcB14 hcB15 hcB16; clear hcB50 hcB51 hcB52 hcB53 hcB54 hcB55 hcB56; clear B5; have m0 := Aside0.mk (below_step (by repeat (first | (with_reducible first | exact HB.out | apply below_alloc | apply pw_below_drewN | apply below_drew1) | exact HB.out)) hb); have m1 := Aside0.mk (blk_below (g := g1) (o := (.cells #[.int .i64 a0, .string a1, .int .i64 a2, .int .i64 a3, .int .i64 a4, .int .i64 a5, .int .i64 a6] 37 (0, 0))) (by (with_reducible repeat (first | refine blk_drewN ?_ _ | refine blk_drew ?_ | refine blk_alloc ?_ _)); exact B1.out) hb); have m2 := Aside0.mk (blk_below (g := g2) (o := (.cells #[.slice none 0 0] 25 (0, 0))) (by (with_reducible repeat (first | refine blk_drewN ?_ _ | refine blk_drew ?_ | refine blk_alloc ?_ _)); exact B2.out) hb); have m3 := Aside0.mk (blk_below (g := g3) (o := (.cells #[.int .i64 0] 28 (0, 0))) (by (with_reducible repeat (first | refine blk_drewN ?_ _ | refine blk_drew ?_ | refine blk_alloc ?_ _)); exact B3.out) hb); clear HB B1 B2 B3; have HB := m0; have B1 := m1; have B2 := m2; have B3 := m3; clear m0 m1 m2 m3; clear BL; have BL := m9; clear m9 hb hrow))
  have hww := wwritten k L1 w.heap.size (fps 1 g1 os) (reqFlds os a0 a1 a2 a3 a4 a5 a6) v9 t0 RES _ BL.out (by simp [fps, reqFlds]) (fields_ok B1.out (typed_req a0 a1 a2 a3 a4 a5 a6) (offs_req HOS.out).1 (by decide)) HROW.out (below_size HB.out) (by simpa [reqFlds] using (offs_req HOS.out).2) HRES.out
  rw [show (fps 1 g1 os).length = os.length by simp [fps]] at hww
  refine hww.mono ?_
  clear hww
  rintro e wz ⟨hcase, hb, hke⟩
  rcases hcase with ⟨v, r, rfl, rfl, hR⟩ | ⟨rfl, rfl⟩
  · obtain ⟨A, c, rfl⟩ := Kd.R_slice hR
    have b2 := hke _ _ _ B2.out (by decide)
    have b3 := hke _ _ _ B3.out (by decide)
    have hb8 := HB.out.trans hb
    clear HB B1 B2 B3 BL HRES hb hke HROW
    have c2 := blk_cell b2 0
    have f2 := blk_frozen b2 0
    have c3 := blk_cell b3 0
    have f3 := blk_frozen b3 0
    simp only [List.getElem?_toArray, List.getElem?_cons_zero, List.getElem?_cons_succ] at c2 c3
    have B2 := Aside0.mk b2
    have B3 := Aside0.mk b3
    have HB := Aside0.mk hb8
    have HR := Aside0.mk hR
    have N23 := Aside0.mk (blk_ne b2 b3 (by decide))
    have hne1 : ¬ g2 = g3 := N23.out
    have hne2 : ¬ g3 = g2 := fun e => N23.out e.symm
    clear b2 b3 hb8 hR
    go_wp2_with (fail)
    have k2 := blk_far (p := ⟨g3, 0, none⟩) (blk_set B2.out 0 (.slice A r.length c)) N23.out (.int .i64 0)
    have k3 := blk_set (blk_far (p := ⟨g2, 0, none⟩) B3.out (Ne.symm N23.out) (.slice A r.length c)) 0 (.int .i64 0)
    simp only [Array.setIfInBounds, List.size_toArray, List.length_cons, List.length_nil, Nat.zero_add, Nat.lt_add_one, dite_true, List.set_toArray, List.set_cons_zero] at k2 k3
    have hR2 := Kd.R_set (Kd.R_set HR.out B2.out (by decide) 0 (.slice A r.length c)) (blk_far (p := ⟨g2, 0, none⟩) B3.out (Ne.symm N23.out) (.slice A r.length c)) (by decide) 0 (.int .i64 0)
    have hB2 := (HB.out.setCell (p := ⟨g2, 0, none⟩) G2.out (.slice A r.length c)).setCell (p := ⟨g3, 0, none⟩) G3.out (.int .i64 0)
    clear c2 f2 c3 f3 HR B2 B3 HB
    generalize (wz.setCell ⟨g2, 0, none⟩ (.slice A r.length c)).setCell ⟨g3, 0, none⟩ (.int .i64 0) = wy at k2 k3 hR2 hB2 ⊢
    have c2 := blk_cell k2 0
    have c3 := blk_cell k3 0
    simp only [List.getElem?_toArray, List.getElem?_cons_zero, List.getElem?_cons_succ] at c2 c3
    refine doorB_ok 38 clBytes_ok (fun _ _ _ => by simp [go_sem]) Try.f15 _ g2 g3 wy k3 _ (.tuple #[.slice A r.length c, .int .i64 0]) ?_ ⟨.inl ⟨r, _, rfl, rfl, hR2⟩, hB2⟩
    simp [results, Try.results15, asAddr, go_sem, c2, c3]
  · refine doorB_bad 38 clBytes_bad (fun _ _ _ => by simp [go_sem]) Try.f15 rfl _ g2 g3 w.heap.size rfl rfl 0 (.slice none 0 0) w _ (HB.out.trans hb) (below_size (HB.out.trans hb)) G2.out G3.out (hke _ _ _ B2.out (by decide)) (hke _ _ _ B3.out (by decide)) _ ?_
    intro w' hb
    exact ⟨.inr ⟨rfl, rfl⟩, hb⟩

def wire_Bytes.f (k : Nat) (a0_0 : Int) (a0_1 : ByteArray) (a0_2 : Int) (a0_3 : Int) (a0_4 : Int) (a0_5 : Int) (a0_6 : Int) : Option (List Int × Int) :=
  match reqOffs a0_0 with
  | none => some ([], 220)
  | some os => if reqPlain os a0_1 a0_2 a0_3 a0_4 a0_5 a0_6 = true then (code_Num.f k (IntKind.u64.wrap a0_0)).bind fun t => (wireWr k (reqFlds os a0_0 a0_1 a0_2 a0_3 a0_4 a0_5 a0_6) t).bind fun x => some (outB x) else some ([], 220)
theorem wire_Bytes.mono : ∀ a0_0 a0_1 a0_2 a0_3 a0_4 a0_5 a0_6 k, LeO (wire_Bytes.f k a0_0 a0_1 a0_2 a0_3 a0_4 a0_5 a0_6) (wire_Bytes.f (k + 1) a0_0 a0_1 a0_2 a0_3 a0_4 a0_5 a0_6) := by
  intro a0_0 a0_1 a0_2 a0_3 a0_4 a0_5 a0_6 k
  unfold wire_Bytes.f
  cases reqOffs a0_0 with
  | none => exact LeO.refl _
  | some os => exact LeO.ite (LeO.bind (code_Num.mono _ k) (fun _ => LeO.bind (wireWr_mono _ _ k) (fun _ => LeO.refl _))) (LeO.refl _)
theorem wire_Bytes.calls (k : Nat) (a0_0 : Int) (a0_1 : ByteArray) (a0_2 : Int) (a0_3 : Int) (a0_4 : Int) (a0_5 : Int) (a0_6 : Int) (r1 : List Int) (r2 : Int) (w : World) (h : wire_Bytes.f k a0_0 a0_1 a0_2 a0_3 a0_4 a0_5 a0_6 = some (r1, r2)) :
    Calls Try.prog 15 #[.agg #[.int .i64 a0_0, .string a0_1, .int .i64 a0_2, .int .i64 a0_3, .int .i64 a0_4, .int .i64 a0_5, .int .i64 a0_6]] w fun e w' => ∃ v0_ : Value, e = .returned (.tuple #[v0_, .int .i64 r2]) ∧ Kd.R (Kd.int .u8) 5 w' w.heap.size (fun _ => True) v0_ r1 ∧ Below w.heap.size w w' := by
  unfold wire_Bytes.f at h
  obtain ⟨oo, ho⟩ : ∃ oo, reqOffs a0_0 = oo := ⟨_, rfl⟩
  rw [ho] at h
  cases oo with
  | none =>
    simp only [Option.some.injEq, Prod.mk.injEq] at h
    obtain ⟨rfl, rfl⟩ := h
    refine (wBytes_not a0_0 a0_1 a0_2 a0_3 a0_4 a0_5 a0_6 w ho).mono ?_
    rintro e w' ⟨rfl, hb⟩
    exact ⟨_, rfl, Kd.R_nil _ _ _ _ _, hb⟩
  | some os =>
    obtain ⟨pl, hpl⟩ : ∃ pl, reqPlain os a0_1 a0_2 a0_3 a0_4 a0_5 a0_6 = pl := ⟨_, rfl⟩
    dsimp only at h
    rw [hpl] at h
    cases pl with
    | false =>
      rw [if_neg (by decide)] at h
      simp only [Option.some.injEq, Prod.mk.injEq] at h
      obtain ⟨rfl, rfl⟩ := h
      refine (wBytes_odd os a0_0 a0_1 a0_2 a0_3 a0_4 a0_5 a0_6 w ho hpl).mono ?_
      rintro e w' ⟨rfl, hb⟩
      exact ⟨_, rfl, Kd.R_nil _ _ _ _ _, hb⟩
    | true =>
      rw [if_pos rfl] at h
      obtain ⟨t, ht, h⟩ := Option.bind_eq_some_iff.mp h
      obtain ⟨x, hx, h⟩ := Option.bind_eq_some_iff.mp h
      refine (wBytes_some k os t x a0_0 a0_1 a0_2 a0_3 a0_4 a0_5 a0_6 w ho hpl ht hx).mono ?_
      rintro e w' ⟨⟨r, v, rfl, rfl, hR⟩ | ⟨rfl, rfl⟩, hb⟩
      · simp only [outB, Option.some.injEq, Prod.mk.injEq] at h
        obtain ⟨rfl, rfl⟩ := h
        exact ⟨_, rfl, hR, hb⟩
      · simp only [outB, Option.some.injEq, Prod.mk.injEq] at h
        obtain ⟨rfl, rfl⟩ := h
        exact ⟨_, rfl, Kd.R_nil _ _ _ _ _, hb⟩

/-! ### lienlaw22_awake: function 14 -/
def lienlaw22_awake.f (k : Nat)  : Option (Bool) := (wire_Bytes.f k 2 (⟨#[97]⟩ : ByteArray) 0 300 0 0 0).bind fun bt149 => ((wire_ReadMsg.f k (([2, 3, 5] : List Int))).bind fun bt156 => (if bt149.2 = 0 then (if (strOfNums bt149.1).toList = ([2, 1, 97, 172, 2] : List UInt8) then (if bt156.2.2.2.2.2 = 0 then (some (bt156.1 == 2 && (bt156.2.1 == 3 && (bt156.2.2.1 == 5 && (bt156.2.2.2.1.toList == ([] : List UInt8) && (bt156.2.2.2.2.1 == 0)))))) else (some false)) else (some false)) else (some false)))
theorem lienlaw22_awake.mono : ∀ k, LeO (lienlaw22_awake.f k ) (lienlaw22_awake.f (k + 1) ) := by
  intro  k
  unfold lienlaw22_awake.f
  repeat' first
      | (with_reducible exact wire_Bytes.mono _ _ _ _ _ _ _ _)
      | (with_reducible exact wire_ReadMsg.mono _ _)
      | (with_reducible exact LeO.refl _)
      | (with_reducible exact LeO.none _)
      | (with_reducible refine LeO.ite ?_ ?_)
      | (with_reducible refine LeO.bind ?_ (fun _ => ?_))
      | exact wire_Bytes.mono _ _ _ _ _ _ _ _
      | exact wire_ReadMsg.mono _ _
      | exact LeO.none _
      | refine LeO.ite ?_ ?_
      | refine LeO.bind ?_ (fun _ => ?_)
set_option maxHeartbeats 8000000 in
set_option maxRecDepth 100000 in
theorem lienlaw22_awake.calls (k : Nat)  (r : Bool) (w : World) (h : lienlaw22_awake.f k  = some r) :
    Calls Try.prog 14 #[] w fun e w' => e = .returned (.bool r) ∧ Below w.heap.size w w' := by
  have hu37 := Try.underlying37
  have hu24 := Try.underlying24
  have HB := Aside0.mk (Below.refl w.heap.size w)
  have H : ((wire_Bytes.f k 2 (⟨#[97]⟩ : ByteArray) 0 300 0 0 0).bind fun bt149 => ((wire_ReadMsg.f k (([2, 3, 5] : List Int))).bind fun bt156 => (if bt149.2 = 0 then (if (strOfNums bt149.1).toList = ([2, 1, 97, 172, 2] : List UInt8) then (if bt156.2.2.2.2.2 = 0 then (some (bt156.1 == 2 && (bt156.2.1 == 3 && (bt156.2.2.1 == 5 && (bt156.2.2.2.1.toList == ([] : List UInt8) && (bt156.2.2.2.2.1 == 0)))))) else (some false)) else (some false)) else (some false)))) = some r := h
  clear h
  replace H := Option.bind_eq_some_iff.mp H
  obtain ⟨⟨t149, t152⟩, A10, H⟩ := H
  replace H : ((wire_ReadMsg.f k (([2, 3, 5] : List Int))).bind fun bt156 => (if t152 = 0 then (if (strOfNums t149).toList = ([2, 1, 97, 172, 2] : List UInt8) then (if bt156.2.2.2.2.2 = 0 then (some (bt156.1 == 2 && (bt156.2.1 == 3 && (bt156.2.2.1 == 5 && (bt156.2.2.2.1.toList == ([] : List UInt8) && (bt156.2.2.2.2.1 == 0)))))) else (some false)) else (some false)) else (some false))) = some r := H
  have A1 := Aside0.mk A10
  clear A10
  obtain ⟨y153, hy153⟩ : ∃ y_ : List Int, y_ = (([2, 3, 5] : List Int)) := ⟨_, rfl⟩
  replace H : ((wire_ReadMsg.f k y153).bind fun bt156 => (if t152 = 0 then (if (strOfNums t149).toList = ([2, 1, 97, 172, 2] : List UInt8) then (if bt156.2.2.2.2.2 = 0 then (some (bt156.1 == 2 && (bt156.2.1 == 3 && (bt156.2.2.1 == 5 && (bt156.2.2.2.1.toList == ([] : List UInt8) && (bt156.2.2.2.2.1 == 0)))))) else (some false)) else (some false)) else (some false))) = some r := by first | (rw [hy153]; with_reducible exact H) | (have H2_ := (Option.bind_some _ _).symm.trans H; rw [hy153]; with_reducible exact H2_) | (have H2_ := (Option.bind_some _ _).symm.trans H; with_reducible exact H2_) | with_reducible exact H | (rw [hy153]; exact H) | exact H
  have Ny153 := Aside0.mk hy153
  clear hy153
  replace H := Option.bind_eq_some_iff.mp H
  obtain ⟨⟨t156, t157, t158, t159, t160, t161⟩, A20, H⟩ := H
  replace H : (if t152 = 0 then (if (strOfNums t149).toList = ([2, 1, 97, 172, 2] : List UInt8) then (if t161 = 0 then (some (t156 == 2 && (t157 == 3 && (t158 == 5 && (t159.toList == ([] : List UInt8) && (t160 == 0)))))) else (some false)) else (some false)) else (some false)) = some r := H
  have A2 := Aside0.mk A20
  clear A20
  by_cases c3 : t152 = 0
  · rw [if_pos c3] at H
    have c3b0 : (t152 == 0) = true := beq_iff_eq.mpr c3
    have c3b1 : (t152 != 0) = false := bne_eq_false_iff_eq.mpr c3
    clear c3
    by_cases c4 : (strOfNums t149).toList = ([2, 1, 97, 172, 2] : List UInt8)
    · rw [if_pos c4] at H
      have c4b0 : ((strOfNums t149).toList == ([2, 1, 97, 172, 2] : List UInt8)) = true := beq_iff_eq.mpr c4
      have c4b1 : ((strOfNums t149).toList != ([2, 1, 97, 172, 2] : List UInt8)) = false := bne_eq_false_iff_eq.mpr c4
      clear c4
      by_cases c5 : t161 = 0
      · rw [if_pos c5] at H
        have c5b0 : (t161 == 0) = true := beq_iff_eq.mpr c5
        have c5b1 : (t161 != 0) = false := bne_eq_false_iff_eq.mpr c5
        clear c5
        obtain rfl := Option.some.inj H
        go_enter Try.func14, Try.ntmps14
        go_wp2_with (first | ((with_reducible refine gate_callee (f := 15) rfl ?_); refine goesL_ (some 7) rfl rfl Try.func15 (by kernel_rfl) rfl #[.agg #[.int .i64 2, .string (⟨#[97]⟩ : ByteArray), .int .i64 0, .int .i64 300, .int .i64 0, .int .i64 0, .int .i64 0]] rfl (by (try simp only [List.map_toArray, List.map_cons, List.map_nil]); first | done | rfl | (simp only [List.length_drop, List.length_take]; rfl)) ?_; (with_reducible refine (wire_Bytes.calls k 2 (⟨#[97]⟩ : ByteArray) 0 300 0 0 0 t149 t152 _ A1.out).mono ?_); rintro e w6 ⟨v150, rfl, ho0, hb⟩; refine ⟨_, rfl, ?_⟩; have n0_ := Aside0.mk (Kd.R_lower ho0 (below_size (by repeat (first | (with_reducible first | exact HB.out | apply below_alloc | apply pw_below_drewN | apply below_drew1) | exact HB.out)))); have n1_ := Aside0.mk (below_step (by repeat (first | (with_reducible first | exact HB.out | apply below_alloc | apply pw_below_drewN | apply below_drew1) | exact HB.out)) hb); clear HB; have HO151 := n0_; have HB := n1_; clear n0_ n1_; (try clear hb); (try clear hb2); (try clear hk); (try clear hi); (try clear ho0)) | ((with_reducible refine gate_dst (N := 11) rfl ?_); refine Kd.R_lit (Kd.int .u8) _ 5 ?hg (N := 11) ?hd (xs := ([2, 3, 5] : List Int)) (inner := [.int .u8 2, .int .u8 3, .int .u8 5]) (ok := fun _ => True) (okp := fun _ => True) ?hr ?hp (fun _ hk => hk) trivial (Below.refl _ _) (Nat.le_refl _) (by simp) ?_; (case hd => rfl); (case hg => rfl); (case hr => first | (go_simp; done) | (go_simp; rfl)); (case hp => exact (Reps.one (show Kd.M (Kd.int .u8) _ _ _ 2 [.int .u8 2] from rfl) (Reps.one (show Kd.M (Kd.int .u8) _ _ _ 3 [.int .u8 3] from rfl) (Reps.one (show Kd.M (Kd.int .u8) _ _ _ 5 [.int .u8 5] from rfl) (Reps.none _ _))))); intro v154 w7 ho8 hb hg_ hnew_; clear hg_ hnew_; (first | rw [← Ny153.out] at ho8 | (simp only [Int.reduceToNat] at ho8; rw [← Ny153.out] at ho8)); have n0_ := Aside0.mk (Kd.R_elder' (by (with_reducible repeat (first | apply Kd.R_alloc | apply Kd.R_drewN | apply Kd.R_drew)); exact HO151.out) (Kd.R_base ho8) hb); have n1_ := Aside0.mk (Kd.R_lower (Kd.R_new' ho8 (Kd.R_lt (by (with_reducible repeat (first | apply Kd.R_alloc | apply Kd.R_drewN | apply Kd.R_drew)); exact HO151.out))) (below_size (by repeat (first | (with_reducible first | exact HB.out | apply below_alloc | apply pw_below_drewN | apply below_drew1) | exact HB.out)))); have n2_ := Aside0.mk (below_step (by repeat (first | (with_reducible first | exact HB.out | apply below_alloc | apply pw_below_drewN | apply below_drew1) | exact HB.out)) hb); clear HO151; clear HB; have HO151 := n0_; have HO155 := n1_; have HB := n2_; clear n0_ n1_ n2_; clear hb ho8; obtain ⟨Ao9, co9, eo9⟩ := Kd.R_slice HO155.out; subst eo9) | ((with_reducible refine gate_callee (f := 12) rfl ?_); refine goesL_ (some 12) rfl rfl Try.func12 (by kernel_rfl) rfl #[.slice Ao9 y153.length co9] rfl (by (try simp only [List.map_toArray, List.map_cons, List.map_nil]); first | done | rfl | (simp only [List.length_drop, List.length_take]; rfl)) ?_; (with_reducible refine (wire_ReadMsg.calls k _ _ y153 t156 t157 t158 t159 t160 t161 _ ?side1 ?side2 A2.out).mono ?_); (case side1 => repeat (first | exact (Kd.R_reads' HO155.out).2.2 | (with_reducible refine Kd.C_alloc ?_ _) | (with_reducible refine Kd.C_drewN ?_ _) | (with_reducible refine Kd.C_drew ?_))); (case side2 => exact (Kd.R_reads' HO155.out).2.1); rintro e w10 ⟨rfl, hb⟩; refine ⟨_, rfl, ?_⟩; have n0_ := Aside0.mk (Kd.R_below (by (with_reducible repeat (first | apply Kd.R_alloc | apply Kd.R_drewN | apply Kd.R_drew)); exact HO151.out) hb); have n1_ := Aside0.mk (Kd.R_below (by (with_reducible repeat (first | apply Kd.R_alloc | apply Kd.R_drewN | apply Kd.R_drew)); exact HO155.out) hb); have n2_ := Aside0.mk (below_step (by repeat (first | (with_reducible first | exact HB.out | apply below_alloc | apply pw_below_drewN | apply below_drew1) | exact HB.out)) hb); clear HO151; clear HO155; clear HB; have HO151 := n0_; have HO155 := n1_; have HB := n2_; clear n0_ n1_ n2_; (try clear hb); (try clear hb2); (try clear hk); (try clear hi)) | ((with_reducible refine gate_dst (N := 3) rfl ?_); refine box_event ?hg (N := 3) ?hd (cs := #[.int .i64 0, .int .i64 0, .int .i64 0, .string (⟨#[]⟩ : ByteArray), .int .i64 0]) (t := 24) ?hr ?_; (case hd => rfl); (case hg => rfl); (case hr => first | (go_simp; done) | (go_simp; rfl)); intro gb162 hg w11 hbox hb; have n0_ := Aside0.mk (Kd.R_below (by (with_reducible repeat (first | apply Kd.R_alloc | apply Kd.R_drewN | apply Kd.R_drew)); exact HO151.out) hb); have n1_ := Aside0.mk (Kd.R_below (by (with_reducible repeat (first | apply Kd.R_alloc | apply Kd.R_drewN | apply Kd.R_drew)); exact HO155.out) hb); have n2_ := Aside0.mk (below_step (by repeat (first | (with_reducible first | exact HB.out | apply below_alloc | apply pw_below_drewN | apply below_drew1) | exact HB.out)) hb); have n3_ := Aside0.mk (hbox); have n4_ := Aside0.mk ((by rw [hg]; exact (below_size (by repeat (first | (with_reducible first | exact HB.out | apply below_alloc | apply pw_below_drewN | apply below_drew1) | exact HB.out))) : w.heap.size ≤ gb162)); have n5_ := Aside0.mk ((by rw [hg]; exact (below_size (by repeat (first | (with_reducible first | exact HB.out | apply below_alloc | apply pw_below_drewN | apply below_drew1) | exact HB.out))) : w.heap.size ≤ gb162)); clear HO151; clear HO155; clear HB; have HO151 := n0_; have HO155 := n1_; have HB := n2_; have BK162 := n3_; have GW162 := n4_; have GE162 := n5_; clear n0_ n1_ n2_ n3_ n4_ n5_; clear hb hbox hg; have hcz12_0 : w11.cell? ⟨gb162, 0, none⟩ = some (.int .i64 0) := (blk_cell BK162.out 0).trans rfl; have hcz12_1 : w11.cell? ⟨gb162, 1, none⟩ = some (.int .i64 0) := (blk_cell BK162.out 1).trans rfl; have hcz12_2 : w11.cell? ⟨gb162, 2, none⟩ = some (.int .i64 0) := (blk_cell BK162.out 2).trans rfl; have hcz12_3 : w11.cell? ⟨gb162, 3, none⟩ = some (.string (⟨#[]⟩ : ByteArray)) := (blk_cell BK162.out 3).trans rfl; have hcz12_4 : w11.cell? ⟨gb162, 4, none⟩ = some (.int .i64 0) := (blk_cell BK162.out 4).trans rfl; have hfz12_0 := blk_frozen BK162.out 0; have hfz12_1 := blk_frozen BK162.out 1; have hfz12_2 := blk_frozen BK162.out 2; have hfz12_3 := blk_frozen BK162.out 3; have hfz12_4 := blk_frozen BK162.out 4; have hcv13 := own_string (P := Try.prog) Try.underlying25 Try.underlying5 Try.underlying9 (Kd.own_of_R HO151.out); have hcv13y := fun (u0 u1 u2 u3 u4 : Value) => own_string (P := Try.prog) Try.underlying25 Try.underlying5 Try.underlying9 (Kd.own_of_R (Kd.R_set (Kd.R_set (Kd.R_set (Kd.R_set (Kd.R_set HO151.out BK162.out (by decide) 0 u0) (blk_set BK162.out 0 u0) (by decide) 1 u1) (blk_set (blk_set BK162.out 0 u0) 1 u1) (by decide) 2 u2) (blk_set (blk_set (blk_set BK162.out 0 u0) 1 u1) 2 u2) (by decide) 3 u3) (blk_set (blk_set (blk_set (blk_set BK162.out 0 u0) 1 u1) 2 u2) 3 u3) (by decide) 4 u4))))
        go_ret
        exact ⟨by first | rfl | (simp [errW_none, errW_some] <;> rfl) | (simp [*, errW_none, errW_some] <;> rfl), by repeat (first | (with_reducible first | exact HB.out | apply below_alloc | apply pw_below_drewN | apply below_drew1 | refine below_set ?_ GE162.out) | exact HB.out)⟩
      · rw [if_neg c5] at H
        have c5b0 : (t161 == 0) = false := beq_eq_false_iff_ne.mpr c5
        have c5b1 : (t161 != 0) = true := bne_iff_ne.mpr c5
        obtain rfl := Option.some.inj H
        go_enter Try.func14, Try.ntmps14
        go_wp2_with (first | ((with_reducible refine gate_callee (f := 15) rfl ?_); refine goesL_ (some 7) rfl rfl Try.func15 (by kernel_rfl) rfl #[.agg #[.int .i64 2, .string (⟨#[97]⟩ : ByteArray), .int .i64 0, .int .i64 300, .int .i64 0, .int .i64 0, .int .i64 0]] rfl (by (try simp only [List.map_toArray, List.map_cons, List.map_nil]); first | done | rfl | (simp only [List.length_drop, List.length_take]; rfl)) ?_; (with_reducible refine (wire_Bytes.calls k 2 (⟨#[97]⟩ : ByteArray) 0 300 0 0 0 t149 t152 _ A1.out).mono ?_); rintro e w14 ⟨v150, rfl, ho0, hb⟩; refine ⟨_, rfl, ?_⟩; have n0_ := Aside0.mk (Kd.R_lower ho0 (below_size (by repeat (first | (with_reducible first | exact HB.out | apply below_alloc | apply pw_below_drewN | apply below_drew1) | exact HB.out)))); have n1_ := Aside0.mk (below_step (by repeat (first | (with_reducible first | exact HB.out | apply below_alloc | apply pw_below_drewN | apply below_drew1) | exact HB.out)) hb); clear HB; have HO151 := n0_; have HB := n1_; clear n0_ n1_; (try clear hb); (try clear hb2); (try clear hk); (try clear hi); (try clear ho0)) | ((with_reducible refine gate_dst (N := 11) rfl ?_); refine Kd.R_lit (Kd.int .u8) _ 5 ?hg (N := 11) ?hd (xs := ([2, 3, 5] : List Int)) (inner := [.int .u8 2, .int .u8 3, .int .u8 5]) (ok := fun _ => True) (okp := fun _ => True) ?hr ?hp (fun _ hk => hk) trivial (Below.refl _ _) (Nat.le_refl _) (by simp) ?_; (case hd => rfl); (case hg => rfl); (case hr => first | (go_simp; done) | (go_simp; rfl)); (case hp => exact (Reps.one (show Kd.M (Kd.int .u8) _ _ _ 2 [.int .u8 2] from rfl) (Reps.one (show Kd.M (Kd.int .u8) _ _ _ 3 [.int .u8 3] from rfl) (Reps.one (show Kd.M (Kd.int .u8) _ _ _ 5 [.int .u8 5] from rfl) (Reps.none _ _))))); intro v154 w15 ho16 hb hg_ hnew_; clear hg_ hnew_; (first | rw [← Ny153.out] at ho16 | (simp only [Int.reduceToNat] at ho16; rw [← Ny153.out] at ho16)); have n0_ := Aside0.mk (Kd.R_elder' (by (with_reducible repeat (first | apply Kd.R_alloc | apply Kd.R_drewN | apply Kd.R_drew)); exact HO151.out) (Kd.R_base ho16) hb); have n1_ := Aside0.mk (Kd.R_lower (Kd.R_new' ho16 (Kd.R_lt (by (with_reducible repeat (first | apply Kd.R_alloc | apply Kd.R_drewN | apply Kd.R_drew)); exact HO151.out))) (below_size (by repeat (first | (with_reducible first | exact HB.out | apply below_alloc | apply pw_below_drewN | apply below_drew1) | exact HB.out)))); have n2_ := Aside0.mk (below_step (by repeat (first | (with_reducible first | exact HB.out | apply below_alloc | apply pw_below_drewN | apply below_drew1) | exact HB.out)) hb); clear HO151; clear HB; have HO151 := n0_; have HO155 := n1_; have HB := n2_; clear n0_ n1_ n2_; clear hb ho16; obtain ⟨Ao17, co17, eo17⟩ := Kd.R_slice HO155.out; subst eo17) | ((with_reducible refine gate_callee (f := 12) rfl ?_); refine goesL_ (some 12) rfl rfl Try.func12 (by kernel_rfl) rfl #[.slice Ao17 y153.length co17] rfl (by (try simp only [List.map_toArray, List.map_cons, List.map_nil]); first | done | rfl | (simp only [List.length_drop, List.length_take]; rfl)) ?_; (with_reducible refine (wire_ReadMsg.calls k _ _ y153 t156 t157 t158 t159 t160 t161 _ ?side1 ?side2 A2.out).mono ?_); (case side1 => repeat (first | exact (Kd.R_reads' HO155.out).2.2 | (with_reducible refine Kd.C_alloc ?_ _) | (with_reducible refine Kd.C_drewN ?_ _) | (with_reducible refine Kd.C_drew ?_))); (case side2 => exact (Kd.R_reads' HO155.out).2.1); rintro e w18 ⟨rfl, hb⟩; refine ⟨_, rfl, ?_⟩; have n0_ := Aside0.mk (Kd.R_below (by (with_reducible repeat (first | apply Kd.R_alloc | apply Kd.R_drewN | apply Kd.R_drew)); exact HO151.out) hb); have n1_ := Aside0.mk (Kd.R_below (by (with_reducible repeat (first | apply Kd.R_alloc | apply Kd.R_drewN | apply Kd.R_drew)); exact HO155.out) hb); have n2_ := Aside0.mk (below_step (by repeat (first | (with_reducible first | exact HB.out | apply below_alloc | apply pw_below_drewN | apply below_drew1) | exact HB.out)) hb); clear HO151; clear HO155; clear HB; have HO151 := n0_; have HO155 := n1_; have HB := n2_; clear n0_ n1_ n2_; (try clear hb); (try clear hb2); (try clear hk); (try clear hi)) | ((with_reducible refine gate_dst (N := 3) rfl ?_); refine box_event ?hg (N := 3) ?hd (cs := #[.int .i64 0, .int .i64 0, .int .i64 0, .string (⟨#[]⟩ : ByteArray), .int .i64 0]) (t := 24) ?hr ?_; (case hd => rfl); (case hg => rfl); (case hr => first | (go_simp; done) | (go_simp; rfl)); intro gb162 hg w19 hbox hb; have n0_ := Aside0.mk (Kd.R_below (by (with_reducible repeat (first | apply Kd.R_alloc | apply Kd.R_drewN | apply Kd.R_drew)); exact HO151.out) hb); have n1_ := Aside0.mk (Kd.R_below (by (with_reducible repeat (first | apply Kd.R_alloc | apply Kd.R_drewN | apply Kd.R_drew)); exact HO155.out) hb); have n2_ := Aside0.mk (below_step (by repeat (first | (with_reducible first | exact HB.out | apply below_alloc | apply pw_below_drewN | apply below_drew1) | exact HB.out)) hb); have n3_ := Aside0.mk (hbox); have n4_ := Aside0.mk ((by rw [hg]; exact (below_size (by repeat (first | (with_reducible first | exact HB.out | apply below_alloc | apply pw_below_drewN | apply below_drew1) | exact HB.out))) : w.heap.size ≤ gb162)); have n5_ := Aside0.mk ((by rw [hg]; exact (below_size (by repeat (first | (with_reducible first | exact HB.out | apply below_alloc | apply pw_below_drewN | apply below_drew1) | exact HB.out))) : w.heap.size ≤ gb162)); clear HO151; clear HO155; clear HB; have HO151 := n0_; have HO155 := n1_; have HB := n2_; have BK162 := n3_; have GW162 := n4_; have GE162 := n5_; clear n0_ n1_ n2_ n3_ n4_ n5_; clear hb hbox hg; have hcz20_0 : w19.cell? ⟨gb162, 0, none⟩ = some (.int .i64 0) := (blk_cell BK162.out 0).trans rfl; have hcz20_1 : w19.cell? ⟨gb162, 1, none⟩ = some (.int .i64 0) := (blk_cell BK162.out 1).trans rfl; have hcz20_2 : w19.cell? ⟨gb162, 2, none⟩ = some (.int .i64 0) := (blk_cell BK162.out 2).trans rfl; have hcz20_3 : w19.cell? ⟨gb162, 3, none⟩ = some (.string (⟨#[]⟩ : ByteArray)) := (blk_cell BK162.out 3).trans rfl; have hcz20_4 : w19.cell? ⟨gb162, 4, none⟩ = some (.int .i64 0) := (blk_cell BK162.out 4).trans rfl; have hfz20_0 := blk_frozen BK162.out 0; have hfz20_1 := blk_frozen BK162.out 1; have hfz20_2 := blk_frozen BK162.out 2; have hfz20_3 := blk_frozen BK162.out 3; have hfz20_4 := blk_frozen BK162.out 4; have hcv21 := own_string (P := Try.prog) Try.underlying25 Try.underlying5 Try.underlying9 (Kd.own_of_R HO151.out); have hcv21y := fun (u0 u1 u2 u3 u4 : Value) => own_string (P := Try.prog) Try.underlying25 Try.underlying5 Try.underlying9 (Kd.own_of_R (Kd.R_set (Kd.R_set (Kd.R_set (Kd.R_set (Kd.R_set HO151.out BK162.out (by decide) 0 u0) (blk_set BK162.out 0 u0) (by decide) 1 u1) (blk_set (blk_set BK162.out 0 u0) 1 u1) (by decide) 2 u2) (blk_set (blk_set (blk_set BK162.out 0 u0) 1 u1) 2 u2) (by decide) 3 u3) (blk_set (blk_set (blk_set (blk_set BK162.out 0 u0) 1 u1) 2 u2) 3 u3) (by decide) 4 u4))))
        go_ret
        exact ⟨by first | rfl | (simp [errW_none, errW_some] <;> rfl) | (simp [*, errW_none, errW_some] <;> rfl), by repeat (first | (with_reducible first | exact HB.out | apply below_alloc | apply pw_below_drewN | apply below_drew1 | refine below_set ?_ GE162.out) | exact HB.out)⟩
    · rw [if_neg c4] at H
      have c4b0 : ((strOfNums t149).toList == ([2, 1, 97, 172, 2] : List UInt8)) = false := beq_eq_false_iff_ne.mpr c4
      have c4b1 : ((strOfNums t149).toList != ([2, 1, 97, 172, 2] : List UInt8)) = true := bne_iff_ne.mpr c4
      obtain rfl := Option.some.inj H
      go_enter Try.func14, Try.ntmps14
      go_wp2_with (first | ((with_reducible refine gate_callee (f := 15) rfl ?_); refine goesL_ (some 7) rfl rfl Try.func15 (by kernel_rfl) rfl #[.agg #[.int .i64 2, .string (⟨#[97]⟩ : ByteArray), .int .i64 0, .int .i64 300, .int .i64 0, .int .i64 0, .int .i64 0]] rfl (by (try simp only [List.map_toArray, List.map_cons, List.map_nil]); first | done | rfl | (simp only [List.length_drop, List.length_take]; rfl)) ?_; (with_reducible refine (wire_Bytes.calls k 2 (⟨#[97]⟩ : ByteArray) 0 300 0 0 0 t149 t152 _ A1.out).mono ?_); rintro e w22 ⟨v150, rfl, ho0, hb⟩; refine ⟨_, rfl, ?_⟩; have n0_ := Aside0.mk (Kd.R_lower ho0 (below_size (by repeat (first | (with_reducible first | exact HB.out | apply below_alloc | apply pw_below_drewN | apply below_drew1) | exact HB.out)))); have n1_ := Aside0.mk (below_step (by repeat (first | (with_reducible first | exact HB.out | apply below_alloc | apply pw_below_drewN | apply below_drew1) | exact HB.out)) hb); clear HB; have HO151 := n0_; have HB := n1_; clear n0_ n1_; (try clear hb); (try clear hb2); (try clear hk); (try clear hi); (try clear ho0)) | ((with_reducible refine gate_dst (N := 11) rfl ?_); refine Kd.R_lit (Kd.int .u8) _ 5 ?hg (N := 11) ?hd (xs := ([2, 3, 5] : List Int)) (inner := [.int .u8 2, .int .u8 3, .int .u8 5]) (ok := fun _ => True) (okp := fun _ => True) ?hr ?hp (fun _ hk => hk) trivial (Below.refl _ _) (Nat.le_refl _) (by simp) ?_; (case hd => rfl); (case hg => rfl); (case hr => first | (go_simp; done) | (go_simp; rfl)); (case hp => exact (Reps.one (show Kd.M (Kd.int .u8) _ _ _ 2 [.int .u8 2] from rfl) (Reps.one (show Kd.M (Kd.int .u8) _ _ _ 3 [.int .u8 3] from rfl) (Reps.one (show Kd.M (Kd.int .u8) _ _ _ 5 [.int .u8 5] from rfl) (Reps.none _ _))))); intro v154 w23 ho24 hb hg_ hnew_; clear hg_ hnew_; (first | rw [← Ny153.out] at ho24 | (simp only [Int.reduceToNat] at ho24; rw [← Ny153.out] at ho24)); have n0_ := Aside0.mk (Kd.R_elder' (by (with_reducible repeat (first | apply Kd.R_alloc | apply Kd.R_drewN | apply Kd.R_drew)); exact HO151.out) (Kd.R_base ho24) hb); have n1_ := Aside0.mk (Kd.R_lower (Kd.R_new' ho24 (Kd.R_lt (by (with_reducible repeat (first | apply Kd.R_alloc | apply Kd.R_drewN | apply Kd.R_drew)); exact HO151.out))) (below_size (by repeat (first | (with_reducible first | exact HB.out | apply below_alloc | apply pw_below_drewN | apply below_drew1) | exact HB.out)))); have n2_ := Aside0.mk (below_step (by repeat (first | (with_reducible first | exact HB.out | apply below_alloc | apply pw_below_drewN | apply below_drew1) | exact HB.out)) hb); clear HO151; clear HB; have HO151 := n0_; have HO155 := n1_; have HB := n2_; clear n0_ n1_ n2_; clear hb ho24; obtain ⟨Ao25, co25, eo25⟩ := Kd.R_slice HO155.out; subst eo25) | ((with_reducible refine gate_callee (f := 12) rfl ?_); refine goesL_ (some 12) rfl rfl Try.func12 (by kernel_rfl) rfl #[.slice Ao25 y153.length co25] rfl (by (try simp only [List.map_toArray, List.map_cons, List.map_nil]); first | done | rfl | (simp only [List.length_drop, List.length_take]; rfl)) ?_; (with_reducible refine (wire_ReadMsg.calls k _ _ y153 t156 t157 t158 t159 t160 t161 _ ?side1 ?side2 A2.out).mono ?_); (case side1 => repeat (first | exact (Kd.R_reads' HO155.out).2.2 | (with_reducible refine Kd.C_alloc ?_ _) | (with_reducible refine Kd.C_drewN ?_ _) | (with_reducible refine Kd.C_drew ?_))); (case side2 => exact (Kd.R_reads' HO155.out).2.1); rintro e w26 ⟨rfl, hb⟩; refine ⟨_, rfl, ?_⟩; have n0_ := Aside0.mk (Kd.R_below (by (with_reducible repeat (first | apply Kd.R_alloc | apply Kd.R_drewN | apply Kd.R_drew)); exact HO151.out) hb); have n1_ := Aside0.mk (Kd.R_below (by (with_reducible repeat (first | apply Kd.R_alloc | apply Kd.R_drewN | apply Kd.R_drew)); exact HO155.out) hb); have n2_ := Aside0.mk (below_step (by repeat (first | (with_reducible first | exact HB.out | apply below_alloc | apply pw_below_drewN | apply below_drew1) | exact HB.out)) hb); clear HO151; clear HO155; clear HB; have HO151 := n0_; have HO155 := n1_; have HB := n2_; clear n0_ n1_ n2_; (try clear hb); (try clear hb2); (try clear hk); (try clear hi)) | ((with_reducible refine gate_dst (N := 3) rfl ?_); refine box_event ?hg (N := 3) ?hd (cs := #[.int .i64 0, .int .i64 0, .int .i64 0, .string (⟨#[]⟩ : ByteArray), .int .i64 0]) (t := 24) ?hr ?_; (case hd => rfl); (case hg => rfl); (case hr => first | (go_simp; done) | (go_simp; rfl)); intro gb162 hg w27 hbox hb; have n0_ := Aside0.mk (Kd.R_below (by (with_reducible repeat (first | apply Kd.R_alloc | apply Kd.R_drewN | apply Kd.R_drew)); exact HO151.out) hb); have n1_ := Aside0.mk (Kd.R_below (by (with_reducible repeat (first | apply Kd.R_alloc | apply Kd.R_drewN | apply Kd.R_drew)); exact HO155.out) hb); have n2_ := Aside0.mk (below_step (by repeat (first | (with_reducible first | exact HB.out | apply below_alloc | apply pw_below_drewN | apply below_drew1) | exact HB.out)) hb); have n3_ := Aside0.mk (hbox); have n4_ := Aside0.mk ((by rw [hg]; exact (below_size (by repeat (first | (with_reducible first | exact HB.out | apply below_alloc | apply pw_below_drewN | apply below_drew1) | exact HB.out))) : w.heap.size ≤ gb162)); have n5_ := Aside0.mk ((by rw [hg]; exact (below_size (by repeat (first | (with_reducible first | exact HB.out | apply below_alloc | apply pw_below_drewN | apply below_drew1) | exact HB.out))) : w.heap.size ≤ gb162)); clear HO151; clear HO155; clear HB; have HO151 := n0_; have HO155 := n1_; have HB := n2_; have BK162 := n3_; have GW162 := n4_; have GE162 := n5_; clear n0_ n1_ n2_ n3_ n4_ n5_; clear hb hbox hg; have hcz28_0 : w27.cell? ⟨gb162, 0, none⟩ = some (.int .i64 0) := (blk_cell BK162.out 0).trans rfl; have hcz28_1 : w27.cell? ⟨gb162, 1, none⟩ = some (.int .i64 0) := (blk_cell BK162.out 1).trans rfl; have hcz28_2 : w27.cell? ⟨gb162, 2, none⟩ = some (.int .i64 0) := (blk_cell BK162.out 2).trans rfl; have hcz28_3 : w27.cell? ⟨gb162, 3, none⟩ = some (.string (⟨#[]⟩ : ByteArray)) := (blk_cell BK162.out 3).trans rfl; have hcz28_4 : w27.cell? ⟨gb162, 4, none⟩ = some (.int .i64 0) := (blk_cell BK162.out 4).trans rfl; have hfz28_0 := blk_frozen BK162.out 0; have hfz28_1 := blk_frozen BK162.out 1; have hfz28_2 := blk_frozen BK162.out 2; have hfz28_3 := blk_frozen BK162.out 3; have hfz28_4 := blk_frozen BK162.out 4; have hcv29 := own_string (P := Try.prog) Try.underlying25 Try.underlying5 Try.underlying9 (Kd.own_of_R HO151.out); have hcv29y := fun (u0 u1 u2 u3 u4 : Value) => own_string (P := Try.prog) Try.underlying25 Try.underlying5 Try.underlying9 (Kd.own_of_R (Kd.R_set (Kd.R_set (Kd.R_set (Kd.R_set (Kd.R_set HO151.out BK162.out (by decide) 0 u0) (blk_set BK162.out 0 u0) (by decide) 1 u1) (blk_set (blk_set BK162.out 0 u0) 1 u1) (by decide) 2 u2) (blk_set (blk_set (blk_set BK162.out 0 u0) 1 u1) 2 u2) (by decide) 3 u3) (blk_set (blk_set (blk_set (blk_set BK162.out 0 u0) 1 u1) 2 u2) 3 u3) (by decide) 4 u4))))
      go_ret
      exact ⟨by first | rfl | (simp [errW_none, errW_some] <;> rfl) | (simp [*, errW_none, errW_some] <;> rfl), by repeat (first | (with_reducible first | exact HB.out | apply below_alloc | apply pw_below_drewN | apply below_drew1 | refine below_set ?_ GE162.out) | exact HB.out)⟩
  · rw [if_neg c3] at H
    have c3b0 : (t152 == 0) = false := beq_eq_false_iff_ne.mpr c3
    have c3b1 : (t152 != 0) = true := bne_iff_ne.mpr c3
    obtain rfl := Option.some.inj H
    go_enter Try.func14, Try.ntmps14
    go_wp2_with (first | ((with_reducible refine gate_callee (f := 15) rfl ?_); refine goesL_ (some 7) rfl rfl Try.func15 (by kernel_rfl) rfl #[.agg #[.int .i64 2, .string (⟨#[97]⟩ : ByteArray), .int .i64 0, .int .i64 300, .int .i64 0, .int .i64 0, .int .i64 0]] rfl (by (try simp only [List.map_toArray, List.map_cons, List.map_nil]); first | done | rfl | (simp only [List.length_drop, List.length_take]; rfl)) ?_; (with_reducible refine (wire_Bytes.calls k 2 (⟨#[97]⟩ : ByteArray) 0 300 0 0 0 t149 t152 _ A1.out).mono ?_); rintro e w30 ⟨v150, rfl, ho0, hb⟩; refine ⟨_, rfl, ?_⟩; have n0_ := Aside0.mk (Kd.R_lower ho0 (below_size (by repeat (first | (with_reducible first | exact HB.out | apply below_alloc | apply pw_below_drewN | apply below_drew1) | exact HB.out)))); have n1_ := Aside0.mk (below_step (by repeat (first | (with_reducible first | exact HB.out | apply below_alloc | apply pw_below_drewN | apply below_drew1) | exact HB.out)) hb); clear HB; have HO151 := n0_; have HB := n1_; clear n0_ n1_; (try clear hb); (try clear hb2); (try clear hk); (try clear hi); (try clear ho0)) | ((with_reducible refine gate_dst (N := 11) rfl ?_); refine Kd.R_lit (Kd.int .u8) _ 5 ?hg (N := 11) ?hd (xs := ([2, 3, 5] : List Int)) (inner := [.int .u8 2, .int .u8 3, .int .u8 5]) (ok := fun _ => True) (okp := fun _ => True) ?hr ?hp (fun _ hk => hk) trivial (Below.refl _ _) (Nat.le_refl _) (by simp) ?_; (case hd => rfl); (case hg => rfl); (case hr => first | (go_simp; done) | (go_simp; rfl)); (case hp => exact (Reps.one (show Kd.M (Kd.int .u8) _ _ _ 2 [.int .u8 2] from rfl) (Reps.one (show Kd.M (Kd.int .u8) _ _ _ 3 [.int .u8 3] from rfl) (Reps.one (show Kd.M (Kd.int .u8) _ _ _ 5 [.int .u8 5] from rfl) (Reps.none _ _))))); intro v154 w31 ho32 hb hg_ hnew_; clear hg_ hnew_; (first | rw [← Ny153.out] at ho32 | (simp only [Int.reduceToNat] at ho32; rw [← Ny153.out] at ho32)); have n0_ := Aside0.mk (Kd.R_elder' (by (with_reducible repeat (first | apply Kd.R_alloc | apply Kd.R_drewN | apply Kd.R_drew)); exact HO151.out) (Kd.R_base ho32) hb); have n1_ := Aside0.mk (Kd.R_lower (Kd.R_new' ho32 (Kd.R_lt (by (with_reducible repeat (first | apply Kd.R_alloc | apply Kd.R_drewN | apply Kd.R_drew)); exact HO151.out))) (below_size (by repeat (first | (with_reducible first | exact HB.out | apply below_alloc | apply pw_below_drewN | apply below_drew1) | exact HB.out)))); have n2_ := Aside0.mk (below_step (by repeat (first | (with_reducible first | exact HB.out | apply below_alloc | apply pw_below_drewN | apply below_drew1) | exact HB.out)) hb); clear HO151; clear HB; have HO151 := n0_; have HO155 := n1_; have HB := n2_; clear n0_ n1_ n2_; clear hb ho32; obtain ⟨Ao33, co33, eo33⟩ := Kd.R_slice HO155.out; subst eo33) | ((with_reducible refine gate_callee (f := 12) rfl ?_); refine goesL_ (some 12) rfl rfl Try.func12 (by kernel_rfl) rfl #[.slice Ao33 y153.length co33] rfl (by (try simp only [List.map_toArray, List.map_cons, List.map_nil]); first | done | rfl | (simp only [List.length_drop, List.length_take]; rfl)) ?_; (with_reducible refine (wire_ReadMsg.calls k _ _ y153 t156 t157 t158 t159 t160 t161 _ ?side1 ?side2 A2.out).mono ?_); (case side1 => repeat (first | exact (Kd.R_reads' HO155.out).2.2 | (with_reducible refine Kd.C_alloc ?_ _) | (with_reducible refine Kd.C_drewN ?_ _) | (with_reducible refine Kd.C_drew ?_))); (case side2 => exact (Kd.R_reads' HO155.out).2.1); rintro e w34 ⟨rfl, hb⟩; refine ⟨_, rfl, ?_⟩; have n0_ := Aside0.mk (Kd.R_below (by (with_reducible repeat (first | apply Kd.R_alloc | apply Kd.R_drewN | apply Kd.R_drew)); exact HO151.out) hb); have n1_ := Aside0.mk (Kd.R_below (by (with_reducible repeat (first | apply Kd.R_alloc | apply Kd.R_drewN | apply Kd.R_drew)); exact HO155.out) hb); have n2_ := Aside0.mk (below_step (by repeat (first | (with_reducible first | exact HB.out | apply below_alloc | apply pw_below_drewN | apply below_drew1) | exact HB.out)) hb); clear HO151; clear HO155; clear HB; have HO151 := n0_; have HO155 := n1_; have HB := n2_; clear n0_ n1_ n2_; (try clear hb); (try clear hb2); (try clear hk); (try clear hi)) | ((with_reducible refine gate_dst (N := 3) rfl ?_); refine box_event ?hg (N := 3) ?hd (cs := #[.int .i64 0, .int .i64 0, .int .i64 0, .string (⟨#[]⟩ : ByteArray), .int .i64 0]) (t := 24) ?hr ?_; (case hd => rfl); (case hg => rfl); (case hr => first | (go_simp; done) | (go_simp; rfl)); intro gb162 hg w35 hbox hb; have n0_ := Aside0.mk (Kd.R_below (by (with_reducible repeat (first | apply Kd.R_alloc | apply Kd.R_drewN | apply Kd.R_drew)); exact HO151.out) hb); have n1_ := Aside0.mk (Kd.R_below (by (with_reducible repeat (first | apply Kd.R_alloc | apply Kd.R_drewN | apply Kd.R_drew)); exact HO155.out) hb); have n2_ := Aside0.mk (below_step (by repeat (first | (with_reducible first | exact HB.out | apply below_alloc | apply pw_below_drewN | apply below_drew1) | exact HB.out)) hb); have n3_ := Aside0.mk (hbox); have n4_ := Aside0.mk ((by rw [hg]; exact (below_size (by repeat (first | (with_reducible first | exact HB.out | apply below_alloc | apply pw_below_drewN | apply below_drew1) | exact HB.out))) : w.heap.size ≤ gb162)); have n5_ := Aside0.mk ((by rw [hg]; exact (below_size (by repeat (first | (with_reducible first | exact HB.out | apply below_alloc | apply pw_below_drewN | apply below_drew1) | exact HB.out))) : w.heap.size ≤ gb162)); clear HO151; clear HO155; clear HB; have HO151 := n0_; have HO155 := n1_; have HB := n2_; have BK162 := n3_; have GW162 := n4_; have GE162 := n5_; clear n0_ n1_ n2_ n3_ n4_ n5_; clear hb hbox hg; have hcz36_0 : w35.cell? ⟨gb162, 0, none⟩ = some (.int .i64 0) := (blk_cell BK162.out 0).trans rfl; have hcz36_1 : w35.cell? ⟨gb162, 1, none⟩ = some (.int .i64 0) := (blk_cell BK162.out 1).trans rfl; have hcz36_2 : w35.cell? ⟨gb162, 2, none⟩ = some (.int .i64 0) := (blk_cell BK162.out 2).trans rfl; have hcz36_3 : w35.cell? ⟨gb162, 3, none⟩ = some (.string (⟨#[]⟩ : ByteArray)) := (blk_cell BK162.out 3).trans rfl; have hcz36_4 : w35.cell? ⟨gb162, 4, none⟩ = some (.int .i64 0) := (blk_cell BK162.out 4).trans rfl; have hfz36_0 := blk_frozen BK162.out 0; have hfz36_1 := blk_frozen BK162.out 1; have hfz36_2 := blk_frozen BK162.out 2; have hfz36_3 := blk_frozen BK162.out 3; have hfz36_4 := blk_frozen BK162.out 4))
    go_ret
    exact ⟨by first | rfl | (simp [errW_none, errW_some] <;> rfl) | (simp [*, errW_none, errW_some] <;> rfl), by repeat (first | (with_reducible first | exact HB.out | apply below_alloc | apply pw_below_drewN | apply below_drew1 | refine below_set ?_ GE162.out) | exact HB.out)⟩

/-! ### wire_sound: function 44 -/
def wire_sound.f (a0_0 : Int) (a0_1 : Int) (a0_2 : Int) (a0_3 : Int) (a0_4 : Int) : Option (Bool) := if a0_0 = 0 then (some true) else (some (a0_1 == 0 && (a0_2 == 0 && (a0_3 == 0 && (a0_4 == 0)))))
set_option maxHeartbeats 8000000 in
set_option maxRecDepth 100000 in
theorem wire_sound.calls (a0_0 : Int) (a0_1 : Int) (a0_2 : Int) (a0_3 : Int) (a0_4 : Int) (r : Bool) (w : World) (h : wire_sound.f a0_0 a0_1 a0_2 a0_3 a0_4 = some r) :
    Calls Try.prog 44 #[.agg #[.int .i64 a0_0, .int .i64 a0_1, .int .i64 a0_2, .int .i64 a0_3, .int .i64 a0_4]] w fun e w' => e = .returned (.bool r) ∧ Below w.heap.size w w' := by
  have hu43 := Try.underlying43
  have HB := Aside0.mk (Below.refl w.heap.size w)
  have H : (if a0_0 = 0 then (some true) else (some (a0_1 == 0 && (a0_2 == 0 && (a0_3 == 0 && (a0_4 == 0)))))) = some r := h
  clear h
  by_cases c2 : a0_0 = 0
  · rw [if_pos c2] at H
    have c2b0 : (a0_0 == 0) = true := beq_iff_eq.mpr c2
    have c2b1 : (a0_0 != 0) = false := bne_eq_false_iff_eq.mpr c2
    clear c2
    obtain rfl := Option.some.inj H
    go_enter Try.func44, Try.ntmps44
    go_wp2_with (first | ((with_reducible refine gate_dst (N := 1) rfl ?_); refine box_event ?hg (N := 1) ?hd (cs := #[.int .i64 a0_0, .int .i64 a0_1, .int .i64 a0_2, .int .i64 a0_3, .int .i64 a0_4]) (t := 43) ?hr ?_; (case hd => rfl); (case hg => rfl); (case hr => first | (go_simp; done) | (go_simp; rfl)); intro gb163 hg w3 hbox hb; have n0_ := Aside0.mk (below_step (by repeat (first | (with_reducible first | exact HB.out | apply below_alloc | apply pw_below_drewN | apply below_drew1) | exact HB.out)) hb); have n1_ := Aside0.mk (hbox); have n2_ := Aside0.mk ((by rw [hg]; exact (below_size (by repeat (first | (with_reducible first | exact HB.out | apply below_alloc | apply pw_below_drewN | apply below_drew1) | exact HB.out))) : w.heap.size ≤ gb163)); have n3_ := Aside0.mk ((by rw [hg]; exact (below_size (by repeat (first | (with_reducible first | exact HB.out | apply below_alloc | apply pw_below_drewN | apply below_drew1) | exact HB.out))) : w.heap.size ≤ gb163)); clear HB; have HB := n0_; have BK163 := n1_; have GW163 := n2_; have GE163 := n3_; clear n0_ n1_ n2_ n3_; clear hb hbox hg; have hcz4_0 : w3.cell? ⟨gb163, 0, none⟩ = some (.int .i64 a0_0) := (blk_cell BK163.out 0).trans rfl; have hcz4_1 : w3.cell? ⟨gb163, 1, none⟩ = some (.int .i64 a0_1) := (blk_cell BK163.out 1).trans rfl; have hcz4_2 : w3.cell? ⟨gb163, 2, none⟩ = some (.int .i64 a0_2) := (blk_cell BK163.out 2).trans rfl; have hcz4_3 : w3.cell? ⟨gb163, 3, none⟩ = some (.int .i64 a0_3) := (blk_cell BK163.out 3).trans rfl; have hcz4_4 : w3.cell? ⟨gb163, 4, none⟩ = some (.int .i64 a0_4) := (blk_cell BK163.out 4).trans rfl; have hfz4_0 := blk_frozen BK163.out 0; have hfz4_1 := blk_frozen BK163.out 1; have hfz4_2 := blk_frozen BK163.out 2; have hfz4_3 := blk_frozen BK163.out 3; have hfz4_4 := blk_frozen BK163.out 4))
    go_ret
    exact ⟨by first | rfl | (simp [errW_none, errW_some] <;> rfl) | (simp [*, errW_none, errW_some] <;> rfl), by repeat (first | (with_reducible first | exact HB.out | apply below_alloc | apply pw_below_drewN | apply below_drew1 | refine below_set ?_ GE163.out) | exact HB.out)⟩
  · rw [if_neg c2] at H
    have c2b0 : (a0_0 == 0) = false := beq_eq_false_iff_ne.mpr c2
    have c2b1 : (a0_0 != 0) = true := bne_iff_ne.mpr c2
    obtain rfl := Option.some.inj H
    go_enter Try.func44, Try.ntmps44
    go_wp2_with (first | ((with_reducible refine gate_dst (N := 1) rfl ?_); refine box_event ?hg (N := 1) ?hd (cs := #[.int .i64 a0_0, .int .i64 a0_1, .int .i64 a0_2, .int .i64 a0_3, .int .i64 a0_4]) (t := 43) ?hr ?_; (case hd => rfl); (case hg => rfl); (case hr => first | (go_simp; done) | (go_simp; rfl)); intro gb163 hg w5 hbox hb; have n0_ := Aside0.mk (below_step (by repeat (first | (with_reducible first | exact HB.out | apply below_alloc | apply pw_below_drewN | apply below_drew1) | exact HB.out)) hb); have n1_ := Aside0.mk (hbox); have n2_ := Aside0.mk ((by rw [hg]; exact (below_size (by repeat (first | (with_reducible first | exact HB.out | apply below_alloc | apply pw_below_drewN | apply below_drew1) | exact HB.out))) : w.heap.size ≤ gb163)); have n3_ := Aside0.mk ((by rw [hg]; exact (below_size (by repeat (first | (with_reducible first | exact HB.out | apply below_alloc | apply pw_below_drewN | apply below_drew1) | exact HB.out))) : w.heap.size ≤ gb163)); clear HB; have HB := n0_; have BK163 := n1_; have GW163 := n2_; have GE163 := n3_; clear n0_ n1_ n2_ n3_; clear hb hbox hg; have hcz6_0 : w5.cell? ⟨gb163, 0, none⟩ = some (.int .i64 a0_0) := (blk_cell BK163.out 0).trans rfl; have hcz6_1 : w5.cell? ⟨gb163, 1, none⟩ = some (.int .i64 a0_1) := (blk_cell BK163.out 1).trans rfl; have hcz6_2 : w5.cell? ⟨gb163, 2, none⟩ = some (.int .i64 a0_2) := (blk_cell BK163.out 2).trans rfl; have hcz6_3 : w5.cell? ⟨gb163, 3, none⟩ = some (.int .i64 a0_3) := (blk_cell BK163.out 3).trans rfl; have hcz6_4 : w5.cell? ⟨gb163, 4, none⟩ = some (.int .i64 a0_4) := (blk_cell BK163.out 4).trans rfl; have hfz6_0 := blk_frozen BK163.out 0; have hfz6_1 := blk_frozen BK163.out 1; have hfz6_2 := blk_frozen BK163.out 2; have hfz6_3 := blk_frozen BK163.out 3; have hfz6_4 := blk_frozen BK163.out 4))
    go_ret
    exact ⟨by first | rfl | (simp [errW_none, errW_some] <;> rfl) | (simp [*, errW_none, errW_some] <;> rfl), by repeat (first | (with_reducible first | exact HB.out | apply below_alloc | apply pw_below_drewN | apply below_drew1 | refine below_set ?_ GE163.out) | exact HB.out)⟩

-- NOT PRINTED: function 45 (wire_numbers)

/-! ### ours: wireN -/

set_option maxHeartbeats 2000000 in
theorem wnumbers (g h : Nat) (w : World) :
    Calls Try.prog 45 #[.pointer (some ⟨g, 0, none⟩), .pointer (some ⟨h, 0, none⟩)] w fun e w' => ∃ L : Nat, e = .returned (.slice (some ⟨L, 0, none⟩) 5 5) ∧ Below w.heap.size w w' ∧ w.heap.size ≤ L ∧ w'.heap[L]? = some (lob ((false, ⟨h, 0, none⟩) :: fps 9 g [1, 2, 3, 4])) := by
  go_enter Try.func45, Try.ntmps45
  go_wp2
  go_region
  all_goals
    dsimp only [Exit.then]
    go_wp2
    go_ret
    exact ⟨w.heap.size, rfl, (Below.drew ((Below.refl w.heap.size w).alloc (Nat.le_refl _) _)), Nat.le_refl _, blk_drew (blk_new w _)⟩

/-! ### wire_ReplyBytes: function 19 -/
-- BY HAND

theorem clRB_bad (g g2 : Nat) (x : Int) (u : FrameMode) (v : Value) (w : World) (hx : x ≠ 0) (hc : w.heap[g]? = some (.cells #[.int .i64 x] 28 (0, 0))) (hc2 : w.heap[g2]? = some (.cells #[v] 25 (0, 0))) :
    CallsD Try.prog 43 #[.pointer (some ⟨g, 0, none⟩), .pointer (some ⟨g2, 0, none⟩)] u w fun e u' w' =>
      u' = u ∧ (e = .returned (.tuple #[]) ∧ w' = (w.setCell ⟨g2, 0, none⟩ (.slice none 0 0))) := by
  have h1 := blk_cell hc 0
  simp only [List.getElem?_toArray, List.getElem?_cons_zero] at h1
  have k0 := blk_cell hc2 0; have f0 := blk_frozen hc2 0; simp only [List.getElem?_toArray, List.getElem?_cons_zero, List.getElem?_cons_succ] at k0
  have hx1 : (x != 0) = true := by simpa using hx
  have hx2 : (x == 0) = false := by simpa using hx
  go_enter_d Try.func43, Try.ntmps43
  go_wp2
  go_end0
  exact ⟨rfl, rfl⟩
theorem clRB_ok (g : Nat) (p : Addr) (u : FrameMode) (w : World) (hc : w.heap[g]? = some (.cells #[.int .i64 0] 28 (0, 0))) :
    CallsD Try.prog 43 #[.pointer (some ⟨g, 0, none⟩), .pointer (some p)] u w fun e u' w' =>
      u' = u ∧ (e = .returned (.tuple #[]) ∧ w' = w) := by
  have h1 := blk_cell hc 0
  simp only [List.getElem?_toArray, List.getElem?_cons_zero] at h1
  go_enter_d Try.func43, Try.ntmps43
  go_wp2
  go_end0
  exact ⟨rfl, rfl⟩

set_option maxHeartbeats 8000000 in
set_option maxRecDepth 100000 in
theorem wrb_test (a0 a1 a2 a3 a4 : Int) (w : World) (hq : wire_sound.f a0 a1 a2 a3 a4 = some false) :
    Calls Try.prog 19 #[.agg #[.int .i64 a0, .int .i64 a1, .int .i64 a2, .int .i64 a3, .int .i64 a4]] w fun e w' => e = .returned (.tuple #[.slice none 0 0, .int .i64 220]) ∧ Below w.heap.size w w' := by
  have HB := Aside0.mk (Below.refl w.heap.size w)
  have hmf : ∀ (fn : Fn) (first cap : Array Value) (w : World), (Instr.makeFunc fn first cap).run Try.prog w = .ok (.func fn first cap) w := fun _ _ _ _ => rfl
  go_enter_defers Try.func19, Try.ntmps19
  go_wp2_with (first | ((with_reducible refine gate_dst (N := 1) rfl ?_); (try (refine gate_guard (by rfl) ?_; dsimp only)); refine box_event ?hg (N := 1) ?hd (cs := #[.int .i64 a0, .int .i64 a1, .int .i64 a2, .int .i64 a3, .int .i64 a4]) (t := 43) ?hr ?_; (case hd => rfl); (case hg => rfl); (case hr => first | (go_simp; done) | (go_simp; rfl)); intro g1 hg w1 hbox hb; have m0 := Aside0.mk (below_step (by repeat (first | (with_reducible first | exact HB.out | apply below_alloc | apply pw_below_drewN | apply below_drew1) | exact HB.out)) hb); have m1 := Aside0.mk hbox; have m2 := Aside0.mk ((by rw [hg]; exact (below_size (by repeat (first | (with_reducible first | exact HB.out | apply below_alloc | apply pw_below_drewN | apply below_drew1) | exact HB.out))) : w.heap.size ≤ g1)); clear HB ; have HB := m0; have B1 := m1; have G1 := m2; clear m0 m1 m2; clear hb hbox hg) | ((with_reducible refine gate_dst (N := 2) rfl ?_); (try (refine gate_guard (by rfl) ?_; dsimp only)); refine box_event ?hg (N := 2) ?hd (cs := #[.slice none 0 0]) (t := 25) ?hr ?_; (case hd => rfl); (case hg => rfl); (case hr => first | (go_simp; done) | (go_simp; rfl)); intro g2 hg w2 hbox hb; have m0 := Aside0.mk (below_step (by repeat (first | (with_reducible first | exact HB.out | apply below_alloc | apply pw_below_drewN | apply below_drew1) | exact HB.out)) hb); have m1 := Aside0.mk hbox; have m2 := Aside0.mk ((by rw [hg]; exact (below_size (by repeat (first | (with_reducible first | exact HB.out | apply below_alloc | apply pw_below_drewN | apply below_drew1) | exact HB.out))) : w.heap.size ≤ g2)); have m3 := Aside0.mk (blk_below (g := g1) (o := (.cells #[.int .i64 a0, .int .i64 a1, .int .i64 a2, .int .i64 a3, .int .i64 a4] 43 (0, 0))) (by (with_reducible repeat (first | refine blk_drewN ?_ _ | refine blk_drew ?_ | refine blk_alloc ?_ _)); exact B1.out) hb); have m4 := Aside0.mk ((by rw [hg]; exact (blk_lt (g := g1) (o := (.cells #[.int .i64 a0, .int .i64 a1, .int .i64 a2, .int .i64 a3, .int .i64 a4] 43 (0, 0))) (by (with_reducible repeat (first | refine blk_drewN ?_ _ | refine blk_drew ?_ | refine blk_alloc ?_ _)); exact B1.out))) : g1 < g2); clear HB B1; have HB := m0; have B2 := m1; have G2 := m2; have B1 := m3; have Ng1g2 := m4; clear m0 m1 m2 m3 m4; clear hb hbox hg) | ((with_reducible refine gate_dst (N := 3) rfl ?_); (try (refine gate_guard (by rfl) ?_; dsimp only)); refine box_event ?hg (N := 3) ?hd (cs := #[.int .i64 0]) (t := 28) ?hr ?_; (case hd => rfl); (case hg => rfl); (case hr => first | (go_simp; done) | (go_simp; rfl)); intro g3 hg w3 hbox hb; have m0 := Aside0.mk (below_step (by repeat (first | (with_reducible first | exact HB.out | apply below_alloc | apply pw_below_drewN | apply below_drew1) | exact HB.out)) hb); have m1 := Aside0.mk hbox; have m2 := Aside0.mk ((by rw [hg]; exact (below_size (by repeat (first | (with_reducible first | exact HB.out | apply below_alloc | apply pw_below_drewN | apply below_drew1) | exact HB.out))) : w.heap.size ≤ g3)); have m3 := Aside0.mk (blk_below (g := g1) (o := (.cells #[.int .i64 a0, .int .i64 a1, .int .i64 a2, .int .i64 a3, .int .i64 a4] 43 (0, 0))) (by (with_reducible repeat (first | refine blk_drewN ?_ _ | refine blk_drew ?_ | refine blk_alloc ?_ _)); exact B1.out) hb); have m4 := Aside0.mk ((by rw [hg]; exact (blk_lt (g := g1) (o := (.cells #[.int .i64 a0, .int .i64 a1, .int .i64 a2, .int .i64 a3, .int .i64 a4] 43 (0, 0))) (by (with_reducible repeat (first | refine blk_drewN ?_ _ | refine blk_drew ?_ | refine blk_alloc ?_ _)); exact B1.out))) : g1 < g3); have m5 := Aside0.mk (blk_below (g := g2) (o := (.cells #[.slice none 0 0] 25 (0, 0))) (by (with_reducible repeat (first | refine blk_drewN ?_ _ | refine blk_drew ?_ | refine blk_alloc ?_ _)); exact B2.out) hb); have m6 := Aside0.mk ((by rw [hg]; exact (blk_lt (g := g2) (o := (.cells #[.slice none 0 0] 25 (0, 0))) (by (with_reducible repeat (first | refine blk_drewN ?_ _ | refine blk_drew ?_ | refine blk_alloc ?_ _)); exact B2.out))) : g2 < g3); clear HB B1 B2; have HB := m0; have B3 := m1; have G3 := m2; have B1 := m3; have Ng1g3 := m4; have B2 := m5; have Ng2g3 := m6; clear m0 m1 m2 m3 m4 m5 m6; clear hb hbox hg; have hcB10 := blk_cell B1.out 0; simp only [List.getElem?_toArray, List.getElem?_cons_zero, List.getElem?_cons_succ] at hcB10; have hcB11 := blk_cell B1.out 1; simp only [List.getElem?_toArray, List.getElem?_cons_zero, List.getElem?_cons_succ] at hcB11; have hcB12 := blk_cell B1.out 2; simp only [List.getElem?_toArray, List.getElem?_cons_zero, List.getElem?_cons_succ] at hcB12; have hcB13 := blk_cell B1.out 3; simp only [List.getElem?_toArray, List.getElem?_cons_zero, List.getElem?_cons_succ] at hcB13; have hcB14 := blk_cell B1.out 4; simp only [List.getElem?_toArray, List.getElem?_cons_zero, List.getElem?_cons_succ] at hcB14))
  refine (wire_sound.calls a0 a1 a2 a3 a4 false _ hq).mono ?_
  rintro e w4 ⟨rfl, hb⟩
  have m0 := Aside0.mk (below_step (by repeat (first | (with_reducible first | exact HB.out | apply below_alloc | apply pw_below_drewN | apply below_drew1) | exact HB.out)) hb)
  have m1 := Aside0.mk (blk_below (g := g2) (o := (.cells #[.slice none 0 0] 25 (0, 0))) (by (with_reducible repeat (first | refine blk_drewN ?_ _ | refine blk_drew ?_ | refine blk_alloc ?_ _)); exact B2.out) hb)
  have m2 := Aside0.mk (blk_below (g := g3) (o := (.cells #[.int .i64 0] 28 (0, 0))) (by (with_reducible repeat (first | refine blk_drewN ?_ _ | refine blk_drew ?_ | refine blk_alloc ?_ _)); exact B3.out) hb)
  clear HB B2 B3
  have HB := m0
  have B2 := m1
  have B3 := m2
  clear m0 m1 m2
  go_wp2_with (first | ((go_at_call 27); (with_reducible refine (must_bad _).mono ?_); rintro e wm ⟨rfl, rfl⟩))
  refine doorB_bad 43 clRB_bad (fun _ _ _ => by simp [go_sem]) Try.f19 rfl _ g2 g3 w.heap.size rfl rfl 0 (.slice none 0 0) w _ HB.out (below_size HB.out) G2.out G3.out B2.out B3.out _ ?_
  intro w' hb
  exact ⟨rfl, hb⟩
set_option maxHeartbeats 8000000 in
set_option maxRecDepth 100000 in
theorem wrb (k : Nat) (a0 a1 a2 a3 a4 : Int) (RES : Option (List Int)) (w : World) (hq : wire_sound.f a0 a1 a2 a3 a4 = some true) (h : wireWr k [.inl a0, .inl a1, .inl a2, .inl a3, .inl a4] [] = some RES) :
    Calls Try.prog 19 #[.agg #[.int .i64 a0, .int .i64 a1, .int .i64 a2, .int .i64 a3, .int .i64 a4]] w fun e w' => ((∃ r v, RES = some r ∧ e = .returned (.tuple #[v, .int .i64 0]) ∧ Kd.R (Kd.int .u8) 5 w' w.heap.size (fun _ => True) v r) ∨ (RES = none ∧ e = .returned (.tuple #[.slice none 0 0, .int .i64 220]))) ∧ Below w.heap.size w w' := by
  have HB := Aside0.mk (Below.refl w.heap.size w)
  have HRES := Aside0.mk h
  clear h
  have hmf : ∀ (fn : Fn) (first cap : Array Value) (w : World), (Instr.makeFunc fn first cap).run Try.prog w = .ok (.func fn first cap) w := fun _ _ _ _ => rfl
  go_enter_defers Try.func19, Try.ntmps19
  go_wp2_with (first | ((with_reducible refine gate_dst (N := 1) rfl ?_); (try (refine gate_guard (by rfl) ?_; dsimp only)); refine box_event ?hg (N := 1) ?hd (cs := #[.int .i64 a0, .int .i64 a1, .int .i64 a2, .int .i64 a3, .int .i64 a4]) (t := 43) ?hr ?_; (case hd => rfl); (case hg => rfl); (case hr => first | (go_simp; done) | (go_simp; rfl)); intro g1 hg w1 hbox hb; have m0 := Aside0.mk (below_step (by repeat (first | (with_reducible first | exact HB.out | apply below_alloc | apply pw_below_drewN | apply below_drew1) | exact HB.out)) hb); have m1 := Aside0.mk hbox; have m2 := Aside0.mk ((by rw [hg]; exact (below_size (by repeat (first | (with_reducible first | exact HB.out | apply below_alloc | apply pw_below_drewN | apply below_drew1) | exact HB.out))) : w.heap.size ≤ g1)); clear HB ; have HB := m0; have B1 := m1; have G1 := m2; clear m0 m1 m2; clear hb hbox hg) | ((with_reducible refine gate_dst (N := 2) rfl ?_); (try (refine gate_guard (by rfl) ?_; dsimp only)); refine box_event ?hg (N := 2) ?hd (cs := #[.slice none 0 0]) (t := 25) ?hr ?_; (case hd => rfl); (case hg => rfl); (case hr => first | (go_simp; done) | (go_simp; rfl)); intro g2 hg w2 hbox hb; have m0 := Aside0.mk (below_step (by repeat (first | (with_reducible first | exact HB.out | apply below_alloc | apply pw_below_drewN | apply below_drew1) | exact HB.out)) hb); have m1 := Aside0.mk hbox; have m2 := Aside0.mk ((by rw [hg]; exact (below_size (by repeat (first | (with_reducible first | exact HB.out | apply below_alloc | apply pw_below_drewN | apply below_drew1) | exact HB.out))) : w.heap.size ≤ g2)); have m3 := Aside0.mk (blk_below (g := g1) (o := (.cells #[.int .i64 a0, .int .i64 a1, .int .i64 a2, .int .i64 a3, .int .i64 a4] 43 (0, 0))) (by (with_reducible repeat (first | refine blk_drewN ?_ _ | refine blk_drew ?_ | refine blk_alloc ?_ _)); exact B1.out) hb); have m4 := Aside0.mk ((by rw [hg]; exact (blk_lt (g := g1) (o := (.cells #[.int .i64 a0, .int .i64 a1, .int .i64 a2, .int .i64 a3, .int .i64 a4] 43 (0, 0))) (by (with_reducible repeat (first | refine blk_drewN ?_ _ | refine blk_drew ?_ | refine blk_alloc ?_ _)); exact B1.out))) : g1 < g2); clear HB B1; have HB := m0; have B2 := m1; have G2 := m2; have B1 := m3; have Ng1g2 := m4; clear m0 m1 m2 m3 m4; clear hb hbox hg) | ((with_reducible refine gate_dst (N := 3) rfl ?_); (try (refine gate_guard (by rfl) ?_; dsimp only)); refine box_event ?hg (N := 3) ?hd (cs := #[.int .i64 0]) (t := 28) ?hr ?_; (case hd => rfl); (case hg => rfl); (case hr => first | (go_simp; done) | (go_simp; rfl)); intro g3 hg w3 hbox hb; have m0 := Aside0.mk (below_step (by repeat (first | (with_reducible first | exact HB.out | apply below_alloc | apply pw_below_drewN | apply below_drew1) | exact HB.out)) hb); have m1 := Aside0.mk hbox; have m2 := Aside0.mk ((by rw [hg]; exact (below_size (by repeat (first | (with_reducible first | exact HB.out | apply below_alloc | apply pw_below_drewN | apply below_drew1) | exact HB.out))) : w.heap.size ≤ g3)); have m3 := Aside0.mk (blk_below (g := g1) (o := (.cells #[.int .i64 a0, .int .i64 a1, .int .i64 a2, .int .i64 a3, .int .i64 a4] 43 (0, 0))) (by (with_reducible repeat (first | refine blk_drewN ?_ _ | refine blk_drew ?_ | refine blk_alloc ?_ _)); exact B1.out) hb); have m4 := Aside0.mk ((by rw [hg]; exact (blk_lt (g := g1) (o := (.cells #[.int .i64 a0, .int .i64 a1, .int .i64 a2, .int .i64 a3, .int .i64 a4] 43 (0, 0))) (by (with_reducible repeat (first | refine blk_drewN ?_ _ | refine blk_drew ?_ | refine blk_alloc ?_ _)); exact B1.out))) : g1 < g3); have m5 := Aside0.mk (blk_below (g := g2) (o := (.cells #[.slice none 0 0] 25 (0, 0))) (by (with_reducible repeat (first | refine blk_drewN ?_ _ | refine blk_drew ?_ | refine blk_alloc ?_ _)); exact B2.out) hb); have m6 := Aside0.mk ((by rw [hg]; exact (blk_lt (g := g2) (o := (.cells #[.slice none 0 0] 25 (0, 0))) (by (with_reducible repeat (first | refine blk_drewN ?_ _ | refine blk_drew ?_ | refine blk_alloc ?_ _)); exact B2.out))) : g2 < g3); clear HB B1 B2; have HB := m0; have B3 := m1; have G3 := m2; have B1 := m3; have Ng1g3 := m4; have B2 := m5; have Ng2g3 := m6; clear m0 m1 m2 m3 m4 m5 m6; clear hb hbox hg; have hcB10 := blk_cell B1.out 0; simp only [List.getElem?_toArray, List.getElem?_cons_zero, List.getElem?_cons_succ] at hcB10; have hcB11 := blk_cell B1.out 1; simp only [List.getElem?_toArray, List.getElem?_cons_zero, List.getElem?_cons_succ] at hcB11; have hcB12 := blk_cell B1.out 2; simp only [List.getElem?_toArray, List.getElem?_cons_zero, List.getElem?_cons_succ] at hcB12; have hcB13 := blk_cell B1.out 3; simp only [List.getElem?_toArray, List.getElem?_cons_zero, List.getElem?_cons_succ] at hcB13; have hcB14 := blk_cell B1.out 4; simp only [List.getElem?_toArray, List.getElem?_cons_zero, List.getElem?_cons_succ] at hcB14))
  refine (wire_sound.calls a0 a1 a2 a3 a4 true _ hq).mono ?_
  rintro e w4 ⟨rfl, hb⟩
  clear hcB10 hcB11 hcB12 hcB13 hcB14
  have m0 := Aside0.mk (below_step (by repeat (first | (with_reducible first | exact HB.out | apply below_alloc | apply pw_below_drewN | apply below_drew1) | exact HB.out)) hb)
  have m1 := Aside0.mk (blk_below (g := g1) (o := (.cells #[.int .i64 a0, .int .i64 a1, .int .i64 a2, .int .i64 a3, .int .i64 a4] 43 (0, 0))) (by (with_reducible repeat (first | refine blk_drewN ?_ _ | refine blk_drew ?_ | refine blk_alloc ?_ _)); exact B1.out) hb)
  have m2 := Aside0.mk (blk_below (g := g2) (o := (.cells #[.slice none 0 0] 25 (0, 0))) (by (with_reducible repeat (first | refine blk_drewN ?_ _ | refine blk_drew ?_ | refine blk_alloc ?_ _)); exact B2.out) hb)
  have m3 := Aside0.mk (blk_below (g := g3) (o := (.cells #[.int .i64 0] 28 (0, 0))) (by (with_reducible repeat (first | refine blk_drewN ?_ _ | refine blk_drew ?_ | refine blk_alloc ?_ _)); exact B3.out) hb)
  clear HB B1 B2 B3
  have HB := m0
  have B1 := m1
  have B2 := m2
  have B3 := m3
  clear m0 m1 m2 m3
  have hcB10 := blk_cell B1.out 0
  simp only [List.getElem?_toArray, List.getElem?_cons_zero, List.getElem?_cons_succ] at hcB10
  have hcB11 := blk_cell B1.out 1
  simp only [List.getElem?_toArray, List.getElem?_cons_zero, List.getElem?_cons_succ] at hcB11
  have hcB12 := blk_cell B1.out 2
  simp only [List.getElem?_toArray, List.getElem?_cons_zero, List.getElem?_cons_succ] at hcB12
  have hcB13 := blk_cell B1.out 3
  simp only [List.getElem?_toArray, List.getElem?_cons_zero, List.getElem?_cons_succ] at hcB13
  have hcB14 := blk_cell B1.out 4
  simp only [List.getElem?_toArray, List.getElem?_cons_zero, List.getElem?_cons_succ] at hcB14
  go_wp2_with (first | ((go_at_call 27); (with_reducible refine (must_ok _).mono ?_); rintro e wm ⟨rfl, rfl⟩) | ((with_reducible refine gate_dst (N := 4) rfl ?_); (try (refine gate_guard (by rfl) ?_; dsimp only)); refine box_event ?hg (N := 4) ?hd (cs := #[.int .i64 0]) (t := 3) ?hr ?_; (case hd => rfl); (case hg => rfl); (case hr => first | (go_simp; done) | (go_simp; rfl)); intro g4 hg w5 hbox hb; have m0 := Aside0.mk (below_step (by repeat (first | (with_reducible first | exact HB.out | apply below_alloc | apply pw_below_drewN | apply below_drew1) | exact HB.out)) hb); have m1 := Aside0.mk hbox; have m2 := Aside0.mk ((by rw [hg]; exact (below_size (by repeat (first | (with_reducible first | exact HB.out | apply below_alloc | apply pw_below_drewN | apply below_drew1) | exact HB.out))) : w.heap.size ≤ g4)); have m3 := Aside0.mk (blk_below (g := g1) (o := (.cells #[.int .i64 a0, .int .i64 a1, .int .i64 a2, .int .i64 a3, .int .i64 a4] 43 (0, 0))) (by (with_reducible repeat (first | refine blk_drewN ?_ _ | refine blk_drew ?_ | refine blk_alloc ?_ _)); exact B1.out) hb); have m4 := Aside0.mk ((by rw [hg]; exact (blk_lt (g := g1) (o := (.cells #[.int .i64 a0, .int .i64 a1, .int .i64 a2, .int .i64 a3, .int .i64 a4] 43 (0, 0))) (by (with_reducible repeat (first | refine blk_drewN ?_ _ | refine blk_drew ?_ | refine blk_alloc ?_ _)); exact B1.out))) : g1 < g4); have m5 := Aside0.mk (blk_below (g := g2) (o := (.cells #[.slice none 0 0] 25 (0, 0))) (by (with_reducible repeat (first | refine blk_drewN ?_ _ | refine blk_drew ?_ | refine blk_alloc ?_ _)); exact B2.out) hb); have m6 := Aside0.mk ((by rw [hg]; exact (blk_lt (g := g2) (o := (.cells #[.slice none 0 0] 25 (0, 0))) (by (with_reducible repeat (first | refine blk_drewN ?_ _ | refine blk_drew ?_ | refine blk_alloc ?_ _)); exact B2.out))) : g2 < g4); have m7 := Aside0.mk (blk_below (g := g3) (o := (.cells #[.int .i64 0] 28 (0, 0))) (by (with_reducible repeat (first | refine blk_drewN ?_ _ | refine blk_drew ?_ | refine blk_alloc ?_ _)); exact B3.out) hb); have m8 := Aside0.mk ((by rw [hg]; exact (blk_lt (g := g3) (o := (.cells #[.int .i64 0] 28 (0, 0))) (by (with_reducible repeat (first | refine blk_drewN ?_ _ | refine blk_drew ?_ | refine blk_alloc ?_ _)); exact B3.out))) : g3 < g4); clear hcB10 hcB11 hcB12 hcB13 hcB14; clear HB B1 B2 B3; have HB := m0; have B4 := m1; have G4 := m2; have B1 := m3; have Ng1g4 := m4; have B2 := m5; have Ng2g4 := m6; have B3 := m7; have Ng3g4 := m8; clear m0 m1 m2 m3 m4 m5 m6 m7 m8; clear hb hbox hg; have hcB40 := blk_cell B4.out 0; simp only [List.getElem?_toArray, List.getElem?_cons_zero, List.getElem?_cons_succ] at hcB40; have hfB40 := blk_frozen B4.out 0))
  have hB4 := blk_set B4.out 0 (.int .i64 a0)
  simp only [Array.setIfInBounds, List.size_toArray, List.length_cons, List.length_nil, Nat.zero_add, Nat.lt_add_one, dite_true, List.set_toArray, List.set_cons_zero] at hB4
  have m1 := blk_far (p := ⟨g4, 0, none⟩) B1.out (Nat.ne_of_lt Ng1g4.out) (.int .i64 a0)
  have m2 := blk_far (p := ⟨g4, 0, none⟩) B2.out (Nat.ne_of_lt Ng2g4.out) (.int .i64 a0)
  have m3 := blk_far (p := ⟨g4, 0, none⟩) B3.out (Nat.ne_of_lt Ng3g4.out) (.int .i64 a0)
  have m0 := Below.setCell (p := ⟨g4, 0, none⟩) HB.out G4.out (.int .i64 a0)
  clear HB B1 B2 B3 B4 hcB40 hfB40
  generalize w5.setCell ⟨g4, 0, none⟩ (.int .i64 a0) = w6 at m0 m1 m2 m3 hB4 ⊢
  refine (wnumbers g1 g4 w6).mono ?_
  rintro e w7 ⟨L, rfl, hb, hL, hlb⟩
  have HB := Aside0.mk (below_step m0 hb)
  have B1 := Aside0.mk (blk_below m1 hb)
  have B2 := Aside0.mk (blk_below m2 hb)
  have B3 := Aside0.mk (blk_below m3 hb)
  have B4 := Aside0.mk (blk_below hB4 hb)
  have BL := Aside0.mk hlb
  clear m0 m1 m2 m3 hB4 hb hL hlb
  go_wp2_with (fail)
  refine (wwritten k L w.heap.size ((false, ⟨g4, 0, none⟩) :: fps 9 g1 [1, 2, 3, 4]) [.inl a0, .inl a1, .inl a2, .inl a3, .inl a4] (.slice none 0 0) [] RES _ BL.out rfl ?hf (Kd.R_nil _ _ _ _ _) (below_size HB.out) (by simp) HRES.out).mono ?_
  case hf =>
    intro j h1 h2
    have b1 := B1.out
    have b4 := B4.out
    have c40 := blk_cell b4 0
    have c11 := blk_cell b1 1
    have c12 := blk_cell b1 2
    have c13 := blk_cell b1 3
    have c14 := blk_cell b1 4
    simp only [List.getElem?_toArray, List.getElem?_cons_zero, List.getElem?_cons_succ] at c40 c11 c12 c13 c14
    match j, h1 with
    | 0, _ => exact ⟨rfl, c40, _, _, b4, by decide⟩
    | 1, _ => exact ⟨rfl, c11, _, _, b1, by decide⟩
    | 2, _ => exact ⟨rfl, c12, _, _, b1, by decide⟩
    | 3, _ => exact ⟨rfl, c13, _, _, b1, by decide⟩
    | 4, _ => exact ⟨rfl, c14, _, _, b1, by decide⟩
    | j + 5, h1 => exact absurd h1 (by simp [fps])
  rintro e w8 ⟨hcase, hb, hke⟩
  rcases hcase with ⟨v, r, rfl, rfl, hR⟩ | ⟨rfl, rfl⟩
  · obtain ⟨A, c, rfl⟩ := Kd.R_slice hR
    have b2 := hke _ _ _ B2.out (by decide)
    have b3 := hke _ _ _ B3.out (by decide)
    have hb8 := HB.out.trans hb
    clear HB B1 B2 B3 B4 BL HRES hb hke
    have c2 := blk_cell b2 0
    have f2 := blk_frozen b2 0
    have c3 := blk_cell b3 0
    have f3 := blk_frozen b3 0
    simp only [List.getElem?_toArray, List.getElem?_cons_zero, List.getElem?_cons_succ] at c2 c3
    have B2 := Aside0.mk b2
    have B3 := Aside0.mk b3
    have HB := Aside0.mk hb8
    have HR := Aside0.mk hR
    have N23 := Aside0.mk (blk_ne b2 b3 (by decide))
    have hne1 : ¬ g2 = g3 := N23.out
    have hne2 : ¬ g3 = g2 := fun e => N23.out e.symm
    clear b2 b3 hb8 hR
    go_wp2_with (fail)
    have k2 := blk_far (p := ⟨g3, 0, none⟩) (blk_set B2.out 0 (.slice A r.length c)) N23.out (.int .i64 0)
    have k3 := blk_set (blk_far (p := ⟨g2, 0, none⟩) B3.out (Ne.symm N23.out) (.slice A r.length c)) 0 (.int .i64 0)
    simp only [Array.setIfInBounds, List.size_toArray, List.length_cons, List.length_nil, Nat.zero_add, Nat.lt_add_one, dite_true, List.set_toArray, List.set_cons_zero] at k2 k3
    have hR2 := Kd.R_set (Kd.R_set HR.out B2.out (by decide) 0 (.slice A r.length c)) (blk_far (p := ⟨g2, 0, none⟩) B3.out (Ne.symm N23.out) (.slice A r.length c)) (by decide) 0 (.int .i64 0)
    have hB2 := (HB.out.setCell (p := ⟨g2, 0, none⟩) G2.out (.slice A r.length c)).setCell (p := ⟨g3, 0, none⟩) G3.out (.int .i64 0)
    clear c2 f2 c3 f3 HR B2 B3 HB
    generalize (w8.setCell ⟨g2, 0, none⟩ (.slice A r.length c)).setCell ⟨g3, 0, none⟩ (.int .i64 0) = w9 at k2 k3 hR2 hB2 ⊢
    have c2 := blk_cell k2 0
    have c3 := blk_cell k3 0
    simp only [List.getElem?_toArray, List.getElem?_cons_zero, List.getElem?_cons_succ] at c2 c3
    refine doorB_ok 43 clRB_ok (fun _ _ _ => by simp [go_sem]) Try.f19 _ g2 g3 w9 k3 _ (.tuple #[.slice A r.length c, .int .i64 0]) ?_ ⟨.inl ⟨r, _, rfl, rfl, hR2⟩, hB2⟩
    simp [results, Try.results19, asAddr, go_sem, c2, c3]
  · refine doorB_bad 43 clRB_bad (fun _ _ _ => by simp [go_sem]) Try.f19 rfl _ g2 g3 w.heap.size rfl rfl 0 (.slice none 0 0) w _ (HB.out.trans hb) (below_size (HB.out.trans hb)) G2.out G3.out (hke _ _ _ B2.out (by decide)) (hke _ _ _ B3.out (by decide)) _ ?_
    intro w' hb
    exact ⟨.inr ⟨rfl, rfl⟩, hb⟩

def wire_ReplyBytes.f (k : Nat) (a0_0 a0_1 a0_2 a0_3 a0_4 : Int) : Option (List Int × Int) :=
  (wire_sound.f a0_0 a0_1 a0_2 a0_3 a0_4).bind fun q => if q = true then (wireWr k [.inl a0_0, .inl a0_1, .inl a0_2, .inl a0_3, .inl a0_4] []).bind fun x => some (outB x) else some ([], 220)
theorem wire_ReplyBytes.mono : ∀ a0_0 a0_1 a0_2 a0_3 a0_4 k, LeO (wire_ReplyBytes.f k a0_0 a0_1 a0_2 a0_3 a0_4) (wire_ReplyBytes.f (k + 1) a0_0 a0_1 a0_2 a0_3 a0_4) := fun _ _ _ _ _ k =>
  LeO.bind (LeO.refl _) (fun _ => LeO.ite (LeO.bind (wireWr_mono _ _ k) (fun _ => LeO.refl _)) (LeO.refl _))
theorem wire_ReplyBytes.calls (k : Nat) (a0_0 a0_1 a0_2 a0_3 a0_4 : Int) (r1 : List Int) (r2 : Int) (w : World) (h : wire_ReplyBytes.f k a0_0 a0_1 a0_2 a0_3 a0_4 = some (r1, r2)) :
    Calls Try.prog 19 #[.agg #[.int .i64 a0_0, .int .i64 a0_1, .int .i64 a0_2, .int .i64 a0_3, .int .i64 a0_4]] w fun e w' => ∃ v0_ : Value, e = .returned (.tuple #[v0_, .int .i64 r2]) ∧ Kd.R (Kd.int .u8) 5 w' w.heap.size (fun _ => True) v0_ r1 ∧ Below w.heap.size w w' := by
  unfold wire_ReplyBytes.f at h
  obtain ⟨q, hq, h⟩ := Option.bind_eq_some_iff.mp h
  cases q with
  | false =>
    rw [if_neg (by decide)] at h
    simp only [Option.some.injEq, Prod.mk.injEq] at h
    obtain ⟨rfl, rfl⟩ := h
    refine (wrb_test a0_0 a0_1 a0_2 a0_3 a0_4 w hq).mono ?_
    rintro e w' ⟨rfl, hb⟩
    exact ⟨_, rfl, Kd.R_nil _ _ _ _ _, hb⟩
  | true =>
    rw [if_pos rfl] at h
    obtain ⟨x, hx, h⟩ := Option.bind_eq_some_iff.mp h
    refine (wrb k a0_0 a0_1 a0_2 a0_3 a0_4 x w hq hx).mono ?_
    rintro e w' ⟨⟨r, v, rfl, rfl, hR⟩ | ⟨rfl, rfl⟩, hb⟩
    · simp only [outB, Option.some.injEq, Prod.mk.injEq] at h
      obtain ⟨rfl, rfl⟩ := h
      exact ⟨_, rfl, hR, hb⟩
    · simp only [outB, Option.some.injEq, Prod.mk.injEq] at h
      obtain ⟨rfl, rfl⟩ := h
      exact ⟨_, rfl, Kd.R_nil _ _ _ _ _, hb⟩

/-! ### lienref22_num: function 30 -/
def lienref22_num.f (a0 : Int) : Option (Bool × Int × ByteArray) := some (false, a0, (⟨#[]⟩ : ByteArray))
set_option maxHeartbeats 8000000 in
set_option maxRecDepth 100000 in
theorem lienref22_num.calls (a0 : Int) (r1 : Bool) (r2 : Int) (r3 : ByteArray) (w : World) (h : lienref22_num.f a0 = some (r1, r2, r3)) :
    Calls Try.prog 30 #[.int .i64 a0] w fun e w' => e = .returned (.agg #[.bool r1, .int .i64 r2, .string r3]) ∧ Below w.heap.size w w' := by
  have hu62 := Try.underlying62
  have HB := Aside0.mk (Below.refl w.heap.size w)
  have H : (some (false, a0, (⟨#[]⟩ : ByteArray))) = some (r1, r2, r3) := h
  clear h
  simp only [Option.some.injEq, Prod.mk.injEq] at H
  obtain ⟨rfl, rfl, rfl⟩ := H
  go_enter Try.func30, Try.ntmps30
  go_wp2_with (first | ((with_reducible refine gate_dst (N := 2) rfl ?_); refine box_event ?hg (N := 2) ?hd (cs := #[.bool false, .int .i64 0, .string (⟨#[]⟩ : ByteArray)]) (t := 62) ?hr ?_; (case hd => rfl); (case hg => rfl); (case hr => first | (go_simp; done) | (go_simp; rfl)); intro gb164 hg w2 hbox hb; have n0_ := Aside0.mk (below_step (by repeat (first | (with_reducible first | exact HB.out | apply below_alloc | apply pw_below_drewN | apply below_drew1) | exact HB.out)) hb); have n1_ := Aside0.mk (hbox); have n2_ := Aside0.mk ((by rw [hg]; exact (below_size (by repeat (first | (with_reducible first | exact HB.out | apply below_alloc | apply pw_below_drewN | apply below_drew1) | exact HB.out))) : w.heap.size ≤ gb164)); have n3_ := Aside0.mk ((by rw [hg]; exact (below_size (by repeat (first | (with_reducible first | exact HB.out | apply below_alloc | apply pw_below_drewN | apply below_drew1) | exact HB.out))) : w.heap.size ≤ gb164)); clear HB; have HB := n0_; have BK164 := n1_; have GW164 := n2_; have GE164 := n3_; clear n0_ n1_ n2_ n3_; clear hb hbox hg; have hcz3_0 : w2.cell? ⟨gb164, 0, none⟩ = some (.bool false) := (blk_cell BK164.out 0).trans rfl; have hcz3_1 : w2.cell? ⟨gb164, 1, none⟩ = some (.int .i64 0) := (blk_cell BK164.out 1).trans rfl; have hcz3_2 : w2.cell? ⟨gb164, 2, none⟩ = some (.string (⟨#[]⟩ : ByteArray)) := (blk_cell BK164.out 2).trans rfl; have hfz3_0 := blk_frozen BK164.out 0; have hfz3_1 := blk_frozen BK164.out 1; have hfz3_2 := blk_frozen BK164.out 2))
  refine bodyPost_ret (results_cell_row rfl _ _ gb164 62 #[.bool false, .int .i64 a0, .string (⟨#[]⟩ : ByteArray)] (0, 0) _ rfl (by (with_reducible repeat (first | refine blk_drewN ?_ _ | refine blk_drew ?_ | refine blk_alloc ?_ _)); refine blk_put (cs := #[.bool false, .int .i64 a0, .string (⟨#[]⟩ : ByteArray)]) ?_ 2 _ rfl; (with_reducible repeat (first | refine blk_drewN ?_ _ | refine blk_drew ?_ | refine blk_alloc ?_ _)); refine blk_put (cs := #[.bool false, .int .i64 0, .string (⟨#[]⟩ : ByteArray)]) ?_ 1 _ rfl; (with_reducible repeat (first | refine blk_drewN ?_ _ | refine blk_drew ?_ | refine blk_alloc ?_ _)); refine blk_put (cs := #[.bool false, .int .i64 0, .string (⟨#[]⟩ : ByteArray)]) ?_ 0 _ rfl; (with_reducible repeat (first | refine blk_drewN ?_ _ | refine blk_drew ?_ | refine blk_alloc ?_ _)); exact BK164.out) Try.underlying62 rfl (by kernel_rfl)) rfl ?_
  exact ⟨by first | rfl | (simp [errW_none, errW_some] <;> rfl) | (simp [*, errW_none, errW_some] <;> rfl), by repeat (first | (with_reducible first | exact HB.out | apply below_alloc | apply pw_below_drewN | apply below_drew1 | refine below_set ?_ GE164.out) | exact HB.out)⟩

/-! ### lienref02_Num: function 48 -/
def lienref02_Num.l0 : Nat → Int → List Int → Option (List Int)
  | 0, _, _ => none
  | k + 1, x0, x3 => if x0 ≥ 128 then (if x3.length < 140737488355328 then (lienref02_Num.l0 k (IntKind.u64.wrap (Int.tdiv x0 128)) (x3 ++ [(IntKind.u64.wrap ((Int.tmod x0 128) + 128)) % 256])) else (none)) else (if x3.length < 140737488355328 then (some (x3 ++ [(x0) % 256])) else (none))
def lienref02_Num.f (k : Nat) (a0 : Int) : Option (List Int) := lienref02_Num.l0 k a0 ([] : List Int)
theorem lienref02_Num.mono_l : ∀ k, (∀ y0 y1, LeO (lienref02_Num.l0 k y0 y1) (lienref02_Num.l0 (k + 1) y0 y1))
  | 0 => fun _ _ r h => by simp [lienref02_Num.l0] at h
  | k + 1 => by
    have ih0 := lienref02_Num.mono_l k
    · intro y0 y1
      unfold lienref02_Num.l0
      repeat' first
      | (with_reducible exact ih0 _ _)
      | (with_reducible exact LeO.refl _)
      | (with_reducible exact LeO.none _)
      | (with_reducible refine LeO.ite ?_ ?_)
      | (with_reducible refine LeO.bind ?_ (fun _ => ?_))
      | exact ih0 _ _
      | exact LeO.none _
      | refine LeO.ite ?_ ?_
      | refine LeO.bind ?_ (fun _ => ?_)
theorem lienref02_Num.mono : ∀ a0 k, LeO (lienref02_Num.f k a0) (lienref02_Num.f (k + 1) a0) := by
  intro a0 k
  have ih0 := lienref02_Num.mono_l k
  unfold lienref02_Num.f
  repeat' first
      | (with_reducible exact ih0 _ _)
      | (with_reducible exact LeO.refl _)
      | (with_reducible exact LeO.none _)
      | (with_reducible refine LeO.ite ?_ ?_)
      | (with_reducible refine LeO.bind ?_ (fun _ => ?_))
      | exact ih0 _ _
      | exact LeO.none _
      | refine LeO.ite ?_ ?_
      | refine LeO.bind ?_ (fun _ => ?_)
set_option maxHeartbeats 8000000 in
set_option maxRecDepth 100000 in
theorem lienref02_Num.calls (k : Nat) (a0 : Int) (r : List Int) (w : World) (h : lienref02_Num.f k a0 = some r) :
    Calls Try.prog 48 #[.int .u64 a0] w fun e w' => ∃ v0_ : Value, e = .returned (v0_) ∧ Kd.R (Kd.int .u8) 5 w' w.heap.size (fun _ => True) v0_ r ∧ Below w.heap.size w w' := by
  have HB := Aside0.mk (Below.refl w.heap.size w)
  have H : (lienref02_Num.l0 k a0 ([] : List Int)) = some r := h
  clear h
  have H' := Aside0.mk H
  clear H
  go_enter Try.func48, Try.ntmps48
  go_wp2
  go_loopg [0, 3] k (fun kq v0 v3 w' => ∃ (x0_1 : Int) (x3_1 : List Int), v0 = .int .u64 x0_1 ∧ Aside0 (lienref02_Num.l0 kq x0_1 x3_1 = some r) ∧ Aside0 (kq ≤ k) ∧ Aside0 (Kd.R (Kd.int .u8) 5 w' w.heap.size (fun _ => True) v3 x3_1) ∧ Aside0 (Below w.heap.size w w'))
  case atStart => exact ⟨(a0), (([] : List Int)), (by first | rfl | (simp; done) | (simp [*]; done)), H', ⟨Nat.le_refl _⟩, ⟨by first | exact Kd.R_nil _ _ _ _ _ | exact Kd.N_nil _ _ _ _ _ | exact Kd.V_nil _ _ _ _ _ | exact Kd.Q_nil _ _ _ _ _ | exact Kd.S_nil _ _ _ _ _⟩, ⟨by repeat (first | (with_reducible first | exact HB.out | apply below_alloc | apply pw_below_drewN | apply below_drew1) | exact HB.out)⟩⟩
  case round =>
    clear H'
    obtain ⟨x0_1, x3_1, rfl, HA, HK1, HO_3, HB⟩ := hrel
    cases gk with
    | zero => exact absurd HA.out (by simp [lienref02_Num.l0])
    | succ k1 =>
      have H := HA.out
      clear HA
      simp only [lienref02_Num.l0] at H
      by_cases c2 : x0_1 ≥ 128
      · rw [if_pos c2] at H
        have c2b0 : decide (128 ≤ x0_1) = true := decide_eq_true c2
        clear c2
        by_cases c3 : x3_1.length < 140737488355328
        · rw [if_pos c3] at H
          have LMc3 := Aside0.mk c3
          clear c3
          obtain ⟨y165, hy165⟩ : ∃ y_ : List Int, y_ = (x3_1 ++ [(IntKind.u64.wrap ((Int.tmod x0_1 128) + 128)) % 256]) := ⟨_, rfl⟩
          replace H : (lienref02_Num.l0 k1 (IntKind.u64.wrap (Int.tdiv x0_1 128)) y165) = some r := by first | (rw [hy165]; with_reducible exact H) | (have H2_ := (Option.bind_some _ _).symm.trans H; rw [hy165]; with_reducible exact H2_) | (have H2_ := (Option.bind_some _ _).symm.trans H; with_reducible exact H2_) | with_reducible exact H | (rw [hy165]; exact H) | exact H
          have Ny165 := Aside0.mk hy165
          clear hy165
          have H' := Aside0.mk H
          clear H
          go_wp2_with (first | ((with_reducible refine gate_builtin (b := .append) (xs := #[.tmp 6, .tmp 11]) rfl ?_); at_builtin; refine Kd.R_append (Kd.int .u8) (w0 := w) w.heap.size rfl (.tmp 6) (.tmp 11) 25 5 (.int .u8 0) 1 rfl Try.underlying25 info5 rfl (by decide) (by omega) u3 x3_1 ((IntKind.u64.wrap ((Int.tmod x0_1 128) + 128)) % 256) [.int .u8 ((IntKind.u64.wrap ((Int.tmod x0_1 128) + 128)) % 256)] (fun _ => True) (fun _ => False) rfl rfl ?aP (fun _ hk => hk.elim) ?aF ?aO ?aB ?aS ?aL ?_; (case aP => exact rfl); (case aB => exact (by repeat (first | (with_reducible first | exact HB.out | apply below_alloc | apply pw_below_drewN | apply below_drew1) | exact HB.out))); (case aF => exact (fun _ _ => trivial)); (case aO => exact (by (with_reducible repeat (first | apply Kd.R_alloc | apply Kd.R_drewN | apply Kd.R_drew)); exact HO_3.out)); (case aS => exact (below_size (by repeat (first | (with_reducible first | exact HB.out | apply below_alloc | apply pw_below_drewN | apply below_drew1) | exact HB.out)))); (case aL => have := LMc3.out; omega); intro v166 w4 ho hb hg hat; rw [← Ny165.out] at ho; have n0_ := Aside0.mk (hb); have n1_ := Aside0.mk (ho); clear HB; clear HO_3; have HB := n0_; have HO167 := n1_; clear n0_ n1_; clear ho hb hg hat))
          go_roundg k1
          case measure => have := HK1.out; omega
          case rel => exact ⟨(IntKind.u64.wrap (Int.tdiv x0_1 128)), (y165), (by first | rfl | (simp; done) | (simp [*]; done)), H', ⟨by have := HK1.out; omega⟩, ⟨by (with_reducible repeat (first | apply Kd.R_alloc | apply Kd.R_drewN | apply Kd.R_drew)); exact HO167.out⟩, ⟨by repeat (first | (with_reducible first | exact HB.out | apply below_alloc | apply pw_below_drewN | apply below_drew1) | exact HB.out)⟩⟩
        · rw [if_neg c3] at H
          exact absurd H (by simp)
      · rw [if_neg c2] at H
        have c2b0 : decide (128 ≤ x0_1) = false := decide_eq_false c2
        clear c2
        by_cases c5 : x3_1.length < 140737488355328
        · rw [if_pos c5] at H
          have LMc5 := Aside0.mk c5
          clear c5
          obtain ⟨y168, hy168⟩ : ∃ y_ : List Int, y_ = (x3_1 ++ [(x0_1) % 256]) := ⟨_, rfl⟩
          replace H : (some y168) = some r := by first | (rw [hy168]; with_reducible exact H) | (have H2_ := (Option.bind_some _ _).symm.trans H; rw [hy168]; with_reducible exact H2_) | (have H2_ := (Option.bind_some _ _).symm.trans H; with_reducible exact H2_) | with_reducible exact H | (rw [hy168]; exact H) | exact H
          have Ny168 := Aside0.mk hy168
          clear hy168
          obtain rfl := Option.some.inj H
          go_wp2_with (first | ((with_reducible refine gate_builtin (b := .append) (xs := #[.tmp 15, .tmp 18]) rfl ?_); at_builtin; refine Kd.R_append (Kd.int .u8) (w0 := w) w.heap.size rfl (.tmp 15) (.tmp 18) 25 5 (.int .u8 0) 1 rfl Try.underlying25 info5 rfl (by decide) (by omega) u3 x3_1 ((x0_1) % 256) [.int .u8 ((x0_1) % 256)] (fun _ => True) (fun _ => False) rfl rfl ?aP (fun _ hk => hk.elim) ?aF ?aO ?aB ?aS ?aL ?_; (case aP => exact rfl); (case aB => exact (by repeat (first | (with_reducible first | exact HB.out | apply below_alloc | apply pw_below_drewN | apply below_drew1) | exact HB.out))); (case aF => exact (fun _ _ => trivial)); (case aO => exact (by (with_reducible repeat (first | apply Kd.R_alloc | apply Kd.R_drewN | apply Kd.R_drew)); exact HO_3.out)); (case aS => exact (below_size (by repeat (first | (with_reducible first | exact HB.out | apply below_alloc | apply pw_below_drewN | apply below_drew1) | exact HB.out)))); (case aL => have := LMc5.out; omega); intro v169 w6 ho hb hg hat; rw [← Ny168.out] at ho; have n0_ := Aside0.mk (hb); have n1_ := Aside0.mk (ho); clear HB; clear HO_3; have HB := n0_; have HO170 := n1_; clear n0_ n1_; clear ho hb hg hat))
          go_ret
          exact ⟨_, by first | rfl | (simp [errW_none, errW_some] <;> rfl) | (simp [*, errW_none, errW_some] <;> rfl), by (with_reducible repeat (first | apply Kd.R_alloc | apply Kd.R_drewN | apply Kd.R_drew)); exact HO170.out, by repeat (first | (with_reducible first | exact HB.out | apply below_alloc | apply pw_below_drewN | apply below_drew1) | exact HB.out)⟩
        · rw [if_neg c5] at H
          exact absurd H (by simp)

/-! ### lienref02_Text: function 49 -/
def lienref02_Text.f (k : Nat) (a0 : ByteArray) : Option (List Int) := (lienref02_Num.f k (IntKind.u64.wrap ((a0.size : Int)))).bind fun t171 => (if t171.length + a0.size < 140737488355328 then (some (t171 ++ bytesOf a0)) else (none))
theorem lienref02_Text.mono : ∀ a0 k, LeO (lienref02_Text.f k a0) (lienref02_Text.f (k + 1) a0) := by
  intro a0 k
  unfold lienref02_Text.f
  repeat' first
      | (with_reducible exact lienref02_Num.mono _ _)
      | (with_reducible exact LeO.refl _)
      | (with_reducible exact LeO.none _)
      | (with_reducible refine LeO.ite ?_ ?_)
      | (with_reducible refine LeO.bind ?_ (fun _ => ?_))
      | exact lienref02_Num.mono _ _
      | exact LeO.none _
      | refine LeO.ite ?_ ?_
      | refine LeO.bind ?_ (fun _ => ?_)
set_option maxHeartbeats 8000000 in
set_option maxRecDepth 100000 in
theorem lienref02_Text.calls (k : Nat) (a0 : ByteArray) (r : List Int) (w : World) (h : lienref02_Text.f k a0 = some r) :
    Calls Try.prog 49 #[.string a0] w fun e w' => ∃ v0_ : Value, e = .returned (v0_) ∧ Kd.R (Kd.int .u8) 5 w' w.heap.size (fun _ => True) v0_ r ∧ Below w.heap.size w w' := by
  have HB := Aside0.mk (Below.refl w.heap.size w)
  have H : ((lienref02_Num.f k (IntKind.u64.wrap ((a0.size : Int)))).bind fun t171 => (if t171.length + a0.size < 140737488355328 then (some (t171 ++ bytesOf a0)) else (none))) = some r := h
  clear h
  replace H := Option.bind_eq_some_iff.mp H
  obtain ⟨t171, A20, H⟩ := H
  replace H : (if t171.length + a0.size < 140737488355328 then (some (t171 ++ bytesOf a0)) else (none)) = some r := H
  have A2 := Aside0.mk A20
  clear A20
  by_cases c3 : t171.length + a0.size < 140737488355328
  · rw [if_pos c3] at H
    have LMc3 := Aside0.mk c3
    clear c3
    obtain ⟨y174, hy174⟩ : ∃ y_ : List Int, y_ = (t171 ++ bytesOf a0) := ⟨_, rfl⟩
    replace H : (some y174) = some r := by first | (rw [hy174]; with_reducible exact H) | (have H2_ := (Option.bind_some _ _).symm.trans H; rw [hy174]; with_reducible exact H2_) | (have H2_ := (Option.bind_some _ _).symm.trans H; with_reducible exact H2_) | with_reducible exact H | (rw [hy174]; exact H) | exact H
    have Ny174 := Aside0.mk hy174
    clear hy174
    obtain rfl := Option.some.inj H
    go_enter Try.func49, Try.ntmps49
    go_wp2_with (first | ((with_reducible refine gate_callee (f := 48) rfl ?_); refine goesL_ (some 6) rfl rfl Try.func48 (by kernel_rfl) rfl #[.int .u64 (IntKind.u64.wrap ((a0.size : Int)))] rfl (by (try simp only [List.map_toArray, List.map_cons, List.map_nil]); first | done | rfl | (simp only [List.length_drop, List.length_take]; rfl)) ?_; (with_reducible refine (lienref02_Num.calls k (IntKind.u64.wrap ((a0.size : Int))) t171 _ A2.out).mono ?_); rintro e w4 ⟨v172, rfl, ho0, hb⟩; refine ⟨_, rfl, ?_⟩; have n0_ := Aside0.mk (Kd.R_lower ho0 (below_size (by repeat (first | (with_reducible first | exact HB.out | apply below_alloc | apply pw_below_drewN | apply below_drew1) | exact HB.out)))); have n1_ := Aside0.mk (below_step (by repeat (first | (with_reducible first | exact HB.out | apply below_alloc | apply pw_below_drewN | apply below_drew1) | exact HB.out)) hb); clear HB; have HO173 := n0_; have HB := n1_; clear n0_ n1_; (try clear hb); (try clear hb2); (try clear hk); (try clear hi); (try clear ho0)) | (at_builtin; refine print_append_str (w0 := w) w.heap.size rfl (.tmp 6) _ 25 9 5 rfl Try.underlying25 Try.underlying9 info5 v172 t171 a0 rfl rfl ?aO ?aB ?aS ?aL ?_; (case aB => exact (by repeat (first | (with_reducible first | exact HB.out | apply below_alloc | apply pw_below_drewN | apply below_drew1) | exact HB.out))); (case aO => exact (Kd.own_of_R (by (with_reducible repeat (first | apply Kd.R_alloc | apply Kd.R_drewN | apply Kd.R_drew)); exact HO173.out))); (case aS => exact (below_size (by repeat (first | (with_reducible first | exact HB.out | apply below_alloc | apply pw_below_drewN | apply below_drew1) | exact HB.out)))); (case aL => have := LMc3.out; omega); intro v175 w5 ho0 hb hg; have ho := Kd.R_of_own (h1 := fun _ => rfl) (ok := fun _ => True) ho0 (fun _ _ => trivial); clear ho0; have hat := True.intro; rw [← Ny174.out] at ho; change Kd.R (Kd.int .u8) 5 w5 w.heap.size (fun _ => True) v175 y174 at ho; have n0_ := Aside0.mk (hb); have n1_ := Aside0.mk (ho); clear HB; clear HO173; have HB := n0_; have HO176 := n1_; clear n0_ n1_; clear ho hb hg hat))
    go_ret
    exact ⟨_, by first | rfl | (simp [errW_none, errW_some] <;> rfl) | (simp [*, errW_none, errW_some] <;> rfl), by (with_reducible repeat (first | apply Kd.R_alloc | apply Kd.R_drewN | apply Kd.R_drew)); exact HO176.out, by repeat (first | (with_reducible first | exact HB.out | apply below_alloc | apply pw_below_drewN | apply below_drew1) | exact HB.out)⟩
  · rw [if_neg c3] at H
    exact absurd H (by simp)

end Go.Proofs.Ytklnnmgfoebbhaa.PWireReplies
