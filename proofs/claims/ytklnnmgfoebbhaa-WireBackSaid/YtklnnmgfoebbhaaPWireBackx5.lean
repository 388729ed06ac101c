-- Written by wip/xprint of this repo (our own program) out of the translation; what is marked BY HAND is ours. Not trusted: Lean checks it.
import Derived.Test.YtklnnmgfoebbhaaPWireBackx0
import Derived.Test.YtklnnmgfoebbhaaPWireBackx4
namespace Go.Proofs.Ytklnnmgfoebbhaa.PWireBack
open Go.RowKit Go.Proofs.YtklnnmgfoebbhaaW.PrintWords Go.Proofs.YtklnnmgfoebbhaaW.PrintLast Go.Proofs.YtklnnmgfoebbhaaW.PrintMore
attribute [local go_sem] max2_int min2_int max_two min_two max_three min_three max_four min_four   -- for this text's walks alone
set_option linter.unusedVariables false
set_option linter.unusedSimpArgs false

/-! ### wire_MsgBytes: function 10 -/
-- BY HAND

def msgCells (a0 : Int) (a1 : Int) (a2 : Int) (a3 : ByteArray) (a4 : Int) : Array Value := #[.int .i64 a0, .int .i64 a1, .int .i64 a2, .string a3, .int .i64 a4]
def msgFlds (os : List Nat) (a0 : Int) (a1 : Int) (a2 : Int) (a3 : ByteArray) (a4 : Int) : List (Int ⊕ ByteArray) := os.map fun o => fldOf ((msgCells a0 a1 a2 a3 a4).getD o undef)
theorem cpy_msg (os : List Nat) (a0 : Int) (a1 : Int) (a2 : Int) (a3 : ByteArray) (a4 : Int) (ho : msgOffs a0 = some os) : cpy os #[.int .i64 a0, .int .i64 a1, .int .i64 a2, .string a3, .int .i64 a4] #[.int .i64 a0, .int .i64 0, .int .i64 0, .string ⟨#[]⟩, .int .i64 0] = #[.int .i64 a0, .int .i64 (pickN os 1 a1), .int .i64 (pickN os 2 a2), .string (pickS os 3 a3), .int .i64 (pickN os 4 a4)] := by
  rcases msgOffs_cases ho with rfl | rfl <;> rfl
def msgPlain (os : List Nat) (a1 : Int) (a2 : Int) (a3 : ByteArray) (a4 : Int) : Bool := true && ((pickN os 1 a1 == a1) && ((pickN os 2 a2 == a2) && (((pickS os 3 a3).toList == a3.toList) && ((pickN os 4 a4 == a4)))))
theorem typed_msg (a0 : Int) (a1 : Int) (a2 : Int) (a3 : ByteArray) (a4 : Int) : Typed 3 #[.int .i64 a0, .int .i64 a1, .int .i64 a2, .string a3, .int .i64 a4] := by
  intro o ho
  match o, ho with
  | 0, _ => exact ⟨_, rfl⟩
  | 1, _ => exact ⟨_, rfl⟩
  | 2, _ => exact ⟨_, rfl⟩
  | 3, _ => exact ⟨_, rfl⟩
  | 4, _ => exact ⟨_, rfl⟩
  | o + 5, ho => exact absurd ho (by simp)
theorem offs_msg {k : Int} {os : List Nat} (h : msgOffs k = some os) : (∀ o ∈ os, o < 5) ∧ os.length ≤ 8 := by
  rcases msgOffs_cases h with rfl | rfl <;> simp
theorem wneq_msg (w : World) (x0 y0 : Int) (x1 y1 : Int) (x2 y2 : Int) (x3 y3 : ByteArray) (x4 y4 : Int) : (binOp .eql 24 (.agg #[.int .i64 x0, .int .i64 x1, .int .i64 x2, .string x3, .int .i64 x4]) (.agg #[.int .i64 y0, .int .i64 y1, .int .i64 y2, .string y3, .int .i64 y4])).run Try.prog w = .ok (.bool ((x0 == y0) && ((x1 == y1) && ((x2 == y2) && ((x3.toList == y3.toList) && ((x4 == y4))))))) w := by
  simp only [binOp]
  rw [show Op.equal 24 = Op.equalIn (9998 + 2) 24 from rfl]
  simp only [Sem.run_bind, weqA24]
  rfl

theorem clMsgBytes_bad (g g2 : Nat) (x : Int) (u : FrameMode) (v : Value) (w : World) (hx : x ≠ 0) (hc : w.heap[g]? = some (.cells #[.int .i64 x] 28 (0, 0))) (hc2 : w.heap[g2]? = some (.cells #[v] 25 (0, 0))) :
    CallsD Try.prog 23 #[.pointer (some ⟨g, 0, none⟩), .pointer (some ⟨g2, 0, none⟩)] u w fun e u' w' =>
      u' = u ∧ (e = .returned (.tuple #[]) ∧ w' = (w.setCell ⟨g2, 0, none⟩ (.slice none 0 0))) := by
  have h1 := blk_cell hc 0
  simp only [List.getElem?_toArray, List.getElem?_cons_zero] at h1
  have k0 := blk_cell hc2 0; have f0 := blk_frozen hc2 0; simp only [List.getElem?_toArray, List.getElem?_cons_zero, List.getElem?_cons_succ] at k0
  have hx1 : (x != 0) = true := by simpa using hx
  have hx2 : (x == 0) = false := by simpa using hx
  go_enter_d Try.func23, Try.ntmps23
  go_wp2
  go_end0
  exact ⟨rfl, rfl⟩
theorem clMsgBytes_ok (g : Nat) (p : Addr) (u : FrameMode) (w : World) (hc : w.heap[g]? = some (.cells #[.int .i64 0] 28 (0, 0))) :
    CallsD Try.prog 23 #[.pointer (some ⟨g, 0, none⟩), .pointer (some p)] u w fun e u' w' =>
      u' = u ∧ (e = .returned (.tuple #[]) ∧ w' = w) := by
  have h1 := blk_cell hc 0
  simp only [List.getElem?_toArray, List.getElem?_cons_zero] at h1
  go_enter_d Try.func23, Try.ntmps23
  go_wp2
  go_end0
  exact ⟨rfl, rfl⟩

set_option maxHeartbeats 8000000 in
set_option maxRecDepth 100000 in
theorem wMsgBytes_not (a0 : Int) (a1 : Int) (a2 : Int) (a3 : ByteArray) (a4 : Int) (w : World) (ho : msgOffs a0 = none) :
    Calls Try.prog 10 #[.agg #[.int .i64 a0, .int .i64 a1, .int .i64 a2, .string a3, .int .i64 a4]] w fun e w' => e = .returned (.tuple #[.slice none 0 0, .int .i64 220]) ∧ Below w.heap.size w w' := by
  have HB := Aside0.mk (Below.refl w.heap.size w)
  have hmf : ∀ (fn : Fn) (first cap : Array Value) (w : World), (Instr.makeFunc fn first cap).run Try.prog w = .ok (.func fn first cap) w := fun _ _ _ _ => rfl
  go_enter_defers Try.func10, Try.ntmps10
  go_wp2_with (first | ((with_reducible refine gate_dst (N := 1) rfl ?_); (try (refine gate_guard (by rfl) ?_; dsimp only)); refine box_event ?hg (N := 1) ?hd (cs := #[.int .i64 a0, .int .i64 a1, .int .i64 a2, .string a3, .int .i64 a4]) (t := 24) ?hr ?_; (case hd => rfl); (case hg => rfl); (case hr => first | (go_simp; done) | (go_simp; rfl)); intro g1 hg w1 hbox hb; have m0 := Aside0.mk (below_step (by repeat (first | (with_reducible first | exact HB.out | apply below_alloc | apply pw_below_drewN | apply below_drew1) | exact HB.out)) hb); have m1 := Aside0.mk hbox; have m2 := Aside0.mk ((by rw [hg]; exact (below_size (by repeat (first | (with_reducible first | exact HB.out | apply below_alloc | apply pw_below_drewN | apply below_drew1) | exact HB.out))) : w.heap.size ≤ g1)); clear HB ; have HB := m0; have B1 := m1; have G1 := m2; clear m0 m1 m2; clear hb hbox hg) | ((with_reducible refine gate_dst (N := 2) rfl ?_); (try (refine gate_guard (by rfl) ?_; dsimp only)); refine box_event ?hg (N := 2) ?hd (cs := #[.slice none 0 0]) (t := 25) ?hr ?_; (case hd => rfl); (case hg => rfl); (case hr => first | (go_simp; done) | (go_simp; rfl)); intro g2 hg w2 hbox hb; have m0 := Aside0.mk (below_step (by repeat (first | (with_reducible first | exact HB.out | apply below_alloc | apply pw_below_drewN | apply below_drew1) | exact HB.out)) hb); have m1 := Aside0.mk hbox; have m2 := Aside0.mk ((by rw [hg]; exact (below_size (by repeat (first | (with_reducible first | exact HB.out | apply below_alloc | apply pw_below_drewN | apply below_drew1) | exact HB.out))) : w.heap.size ≤ g2)); have m3 := Aside0.mk (blk_below (g := g1) (o := (.cells #[.int .i64 a0, .int .i64 a1, .int .i64 a2, .string a3, .int .i64 a4] 24 (0, 0))) (by (with_reducible repeat (first | refine blk_drewN ?_ _ | refine blk_drew ?_ | refine blk_alloc ?_ _)); exact B1.out) hb); have m4 := Aside0.mk ((by rw [hg]; exact (blk_lt (g := g1) (o := (.cells #[.int .i64 a0, .int .i64 a1, .int .i64 a2, .string a3, .int .i64 a4] 24 (0, 0))) (by (with_reducible repeat (first | refine blk_drewN ?_ _ | refine blk_drew ?_ | refine blk_alloc ?_ _)); exact B1.out))) : g1 < g2); clear HB B1; have HB := m0; have B2 := m1; have G2 := m2; have B1 := m3; have Ng1g2 := m4; clear m0 m1 m2 m3 m4; clear hb hbox hg) | ((with_reducible refine gate_dst (N := 3) rfl ?_); (try (refine gate_guard (by rfl) ?_; dsimp only)); refine box_event ?hg (N := 3) ?hd (cs := #[.int .i64 0]) (t := 28) ?hr ?_; (case hd => rfl); (case hg => rfl); (case hr => first | (go_simp; done) | (go_simp; rfl)); intro g3 hg w3 hbox hb; have m0 := Aside0.mk (below_step (by repeat (first | (with_reducible first | exact HB.out | apply below_alloc | apply pw_below_drewN | apply below_drew1) | exact HB.out)) hb); have m1 := Aside0.mk hbox; have m2 := Aside0.mk ((by rw [hg]; exact (below_size (by repeat (first | (with_reducible first | exact HB.out | apply below_alloc | apply pw_below_drewN | apply below_drew1) | exact HB.out))) : w.heap.size ≤ g3)); have m3 := Aside0.mk (blk_below (g := g1) (o := (.cells #[.int .i64 a0, .int .i64 a1, .int .i64 a2, .string a3, .int .i64 a4] 24 (0, 0))) (by (with_reducible repeat (first | refine blk_drewN ?_ _ | refine blk_drew ?_ | refine blk_alloc ?_ _)); exact B1.out) hb); have m4 := Aside0.mk ((by rw [hg]; exact (blk_lt (g := g1) (o := (.cells #[.int .i64 a0, .int .i64 a1, .int .i64 a2, .string a3, .int .i64 a4] 24 (0, 0))) (by (with_reducible repeat (first | refine blk_drewN ?_ _ | refine blk_drew ?_ | refine blk_alloc ?_ _)); exact B1.out))) : g1 < g3); have m5 := Aside0.mk (blk_below (g := g2) (o := (.cells #[.slice none 0 0] 25 (0, 0))) (by (with_reducible repeat (first | refine blk_drewN ?_ _ | refine blk_drew ?_ | refine blk_alloc ?_ _)); exact B2.out) hb); have m6 := Aside0.mk ((by rw [hg]; exact (blk_lt (g := g2) (o := (.cells #[.slice none 0 0] 25 (0, 0))) (by (with_reducible repeat (first | refine blk_drewN ?_ _ | refine blk_drew ?_ | refine blk_alloc ?_ _)); exact B2.out))) : g2 < g3); clear HB B1 B2; have HB := m0; have B3 := m1; have G3 := m2; have B1 := m3; have Ng1g3 := m4; have B2 := m5; have Ng2g3 := m6; clear m0 m1 m2 m3 m4 m5 m6; clear hb hbox hg))
  have hk1 : w3.cell? ⟨g1, 0, none⟩ = some (.int .i64 a0) := by
    have q := blk_cell B1.out 0
    simpa using q
  refine (wpa_not a0 ho g1 w3 hk1).mono ?_
  rintro e w4 ⟨rfl, rfl⟩
  go_wp2_with (first | ((with_reducible refine gate_dst (N := 5) rfl ?_); (try (refine gate_guard (by rfl) ?_; dsimp only)); refine box_event ?hg (N := 5) ?hd (cs := #[.int .i64 0, .int .i64 0, .int .i64 0, .string ⟨#[]⟩, .int .i64 0]) (t := 24) ?hr ?_; (case hd => rfl); (case hg => rfl); (case hr => first | (go_simp; done) | (go_simp; rfl)); intro g5 hg w5 hbox hb; have m0 := Aside0.mk (below_step (by repeat (first | (with_reducible first | exact HB.out | apply below_alloc | apply pw_below_drewN | apply below_drew1) | exact HB.out)) hb); have m1 := Aside0.mk hbox; have m2 := Aside0.mk ((by rw [hg]; exact (below_size (by repeat (first | (with_reducible first | exact HB.out | apply below_alloc | apply pw_below_drewN | apply below_drew1) | exact HB.out))) : w.heap.size ≤ g5)); have m3 := Aside0.mk (blk_below (g := g1) (o := (.cells #[.int .i64 a0, .int .i64 a1, .int .i64 a2, .string a3, .int .i64 a4] 24 (0, 0))) (by (with_reducible repeat (first | refine blk_drewN ?_ _ | refine blk_drew ?_ | refine blk_alloc ?_ _)); exact B1.out) hb); have m4 := Aside0.mk ((by rw [hg]; exact (blk_lt (g := g1) (o := (.cells #[.int .i64 a0, .int .i64 a1, .int .i64 a2, .string a3, .int .i64 a4] 24 (0, 0))) (by (with_reducible repeat (first | refine blk_drewN ?_ _ | refine blk_drew ?_ | refine blk_alloc ?_ _)); exact B1.out))) : g1 < g5); have m5 := Aside0.mk (blk_below (g := g2) (o := (.cells #[.slice none 0 0] 25 (0, 0))) (by (with_reducible repeat (first | refine blk_drewN ?_ _ | refine blk_drew ?_ | refine blk_alloc ?_ _)); exact B2.out) hb); have m6 := Aside0.mk ((by rw [hg]; exact (blk_lt (g := g2) (o := (.cells #[.slice none 0 0] 25 (0, 0))) (by (with_reducible repeat (first | refine blk_drewN ?_ _ | refine blk_drew ?_ | refine blk_alloc ?_ _)); exact B2.out))) : g2 < g5); have m7 := Aside0.mk (blk_below (g := g3) (o := (.cells #[.int .i64 0] 28 (0, 0))) (by (with_reducible repeat (first | refine blk_drewN ?_ _ | refine blk_drew ?_ | refine blk_alloc ?_ _)); exact B3.out) hb); have m8 := Aside0.mk ((by rw [hg]; exact (blk_lt (g := g3) (o := (.cells #[.int .i64 0] 28 (0, 0))) (by (with_reducible repeat (first | refine blk_drewN ?_ _ | refine blk_drew ?_ | refine blk_alloc ?_ _)); exact B3.out))) : g3 < g5); clear hk1; clear HB B1 B2 B3; have HB := m0; have B5 := m1; have G5 := m2; have B1 := m3; have Ng1g5 := m4; have B2 := m5; have Ng2g5 := m6; have B3 := m7; have Ng3g5 := m8; clear m0 m1 m2 m3 m4 m5 m6 m7 m8; clear hb hbox hg; have hcB50 := blk_cell B5.out 0; simp only [List.getElem?_toArray, List.getElem?_cons_zero, List.getElem?_cons_succ] at hcB50; have hfB50 := blk_frozen B5.out 0; have hcB51 := blk_cell B5.out 1; simp only [List.getElem?_toArray, List.getElem?_cons_zero, List.getElem?_cons_succ] at hcB51; have hfB51 := blk_frozen B5.out 1; have hcB52 := blk_cell B5.out 2; simp only [List.getElem?_toArray, List.getElem?_cons_zero, List.getElem?_cons_succ] at hcB52; have hfB52 := blk_frozen B5.out 2; have hcB53 := blk_cell B5.out 3; simp only [List.getElem?_toArray, List.getElem?_cons_zero, List.getElem?_cons_succ] at hcB53; have hfB53 := blk_frozen B5.out 3; have hcB54 := blk_cell B5.out 4; simp only [List.getElem?_toArray, List.getElem?_cons_zero, List.getElem?_cons_succ] at hcB54; have hfB54 := blk_frozen B5.out 4))
  have m5 := (blk_put (cs' := #[.int .i64 a0, .int .i64 0, .int .i64 0, .string ⟨#[]⟩, .int .i64 0]) (blk_put (cs' := #[.int .i64 a0, .int .i64 0, .int .i64 0, .string ⟨#[]⟩, .int .i64 0]) (blk_put (cs' := #[.int .i64 a0, .int .i64 0, .int .i64 0, .string ⟨#[]⟩, .int .i64 0]) (blk_put (cs' := #[.int .i64 a0, .int .i64 0, .int .i64 0, .string ⟨#[]⟩, .int .i64 0]) (blk_put (cs' := #[.int .i64 a0, .int .i64 0, .int .i64 0, .string ⟨#[]⟩, .int .i64 0]) B5.out 0 (.int .i64 a0) rfl) 1 (.int .i64 0) rfl) 2 (.int .i64 0) rfl) 3 (.string ⟨#[]⟩) rfl) 4 (.int .i64 0) rfl)
  have m1 := (blk_far (p := ⟨g5, 4, none⟩) (blk_far (p := ⟨g5, 3, none⟩) (blk_far (p := ⟨g5, 2, none⟩) (blk_far (p := ⟨g5, 1, none⟩) (blk_far (p := ⟨g5, 0, none⟩) B1.out (Nat.ne_of_lt Ng1g5.out) (.int .i64 a0)) (Nat.ne_of_lt Ng1g5.out) (.int .i64 0)) (Nat.ne_of_lt Ng1g5.out) (.int .i64 0)) (Nat.ne_of_lt Ng1g5.out) (.string ⟨#[]⟩)) (Nat.ne_of_lt Ng1g5.out) (.int .i64 0))
  have m2 := (blk_far (p := ⟨g5, 4, none⟩) (blk_far (p := ⟨g5, 3, none⟩) (blk_far (p := ⟨g5, 2, none⟩) (blk_far (p := ⟨g5, 1, none⟩) (blk_far (p := ⟨g5, 0, none⟩) B2.out (Nat.ne_of_lt Ng2g5.out) (.int .i64 a0)) (Nat.ne_of_lt Ng2g5.out) (.int .i64 0)) (Nat.ne_of_lt Ng2g5.out) (.int .i64 0)) (Nat.ne_of_lt Ng2g5.out) (.string ⟨#[]⟩)) (Nat.ne_of_lt Ng2g5.out) (.int .i64 0))
  have m3 := (blk_far (p := ⟨g5, 4, none⟩) (blk_far (p := ⟨g5, 3, none⟩) (blk_far (p := ⟨g5, 2, none⟩) (blk_far (p := ⟨g5, 1, none⟩) (blk_far (p := ⟨g5, 0, none⟩) B3.out (Nat.ne_of_lt Ng3g5.out) (.int .i64 a0)) (Nat.ne_of_lt Ng3g5.out) (.int .i64 0)) (Nat.ne_of_lt Ng3g5.out) (.int .i64 0)) (Nat.ne_of_lt Ng3g5.out) (.string ⟨#[]⟩)) (Nat.ne_of_lt Ng3g5.out) (.int .i64 0))
  have m0 := (((((HB.out.setCell (p := ⟨g5, 0, none⟩) G5.out (.int .i64 a0)).setCell (p := ⟨g5, 1, none⟩) G5.out (.int .i64 0)).setCell (p := ⟨g5, 2, none⟩) G5.out (.int .i64 0)).setCell (p := ⟨g5, 3, none⟩) G5.out (.string ⟨#[]⟩)).setCell (p := ⟨g5, 4, none⟩) G5.out (.int .i64 0))
  clear HB B1 B2 B3 B5 hcB50 hfB50 hcB51 hfB51 hcB52 hfB52 hcB53 hfB53 hcB54 hfB54
  generalize (((((w5.setCell ⟨g5, 0, none⟩ (.int .i64 a0)).setCell ⟨g5, 1, none⟩ (.int .i64 0)).setCell ⟨g5, 2, none⟩ (.int .i64 0)).setCell ⟨g5, 3, none⟩ (.string ⟨#[]⟩)).setCell ⟨g5, 4, none⟩ (.int .i64 0)) = w6 at m0 m1 m2 m3 m5 ⊢
  have hk5 : w6.cell? ⟨g5, 0, none⟩ = some (.int .i64 a0) := by
    have q := blk_cell m5 0
    simpa using q
  refine (wpa_not a0 ho g5 w6 hk5).mono ?_
  rintro e w7 ⟨rfl, rfl⟩
  have hnn := fun (w : World) => run_neq_slice_nil_any (P := Try.prog) w 52 20 none 0 0 0 0 Try.underlying52
  clear hk5
  go_wp2_with (first | ((go_at_call 26); (with_reducible refine (wcopied_nil _).mono ?_); rintro e wm ⟨rfl, rfl⟩) | ((go_at_call 27); (with_reducible refine (must_bad _).mono ?_); rintro e wm ⟨rfl, rfl⟩))
  refine doorB_bad 23 clMsgBytes_bad (fun _ _ _ => by simp [go_sem]) Try.f10 rfl _ g2 g3 w.heap.size rfl rfl 0 (.slice none 0 0) w _ m0 (below_size m0) G2.out G3.out m2 m3 _ ?_
  intro w' hb
  exact ⟨rfl, hb⟩

set_option maxHeartbeats 8000000 in
set_option maxRecDepth 100000 in
theorem wMsgBytes_odd (os : List Nat) (a0 : Int) (a1 : Int) (a2 : Int) (a3 : ByteArray) (a4 : Int) (w : World) (ho : msgOffs a0 = some os) (hpl : msgPlain os a1 a2 a3 a4 = false) :
    Calls Try.prog 10 #[.agg #[.int .i64 a0, .int .i64 a1, .int .i64 a2, .string a3, .int .i64 a4]] w fun e w' => e = .returned (.tuple #[.slice none 0 0, .int .i64 220]) ∧ Below w.heap.size w w' := by
  have HB := Aside0.mk (Below.refl w.heap.size w)
  have hmf : ∀ (fn : Fn) (first cap : Array Value) (w : World), (Instr.makeFunc fn first cap).run Try.prog w = .ok (.func fn first cap) w := fun _ _ _ _ => rfl
  have HOS := Aside0.mk ho
  have HPL := Aside0.mk hpl
  clear ho hpl
  go_enter_defers Try.func10, Try.ntmps10
  go_wp2_with (first | ((with_reducible refine gate_dst (N := 1) rfl ?_); (try (refine gate_guard (by rfl) ?_; dsimp only)); refine box_event ?hg (N := 1) ?hd (cs := #[.int .i64 a0, .int .i64 a1, .int .i64 a2, .string a3, .int .i64 a4]) (t := 24) ?hr ?_; (case hd => rfl); (case hg => rfl); (case hr => first | (go_simp; done) | (go_simp; rfl)); intro g1 hg w1 hbox hb; have m0 := Aside0.mk (below_step (by repeat (first | (with_reducible first | exact HB.out | apply below_alloc | apply pw_below_drewN | apply below_drew1) | exact HB.out)) hb); have m1 := Aside0.mk hbox; have m2 := Aside0.mk ((by rw [hg]; exact (below_size (by repeat (first | (with_reducible first | exact HB.out | apply below_alloc | apply pw_below_drewN | apply below_drew1) | exact HB.out))) : w.heap.size ≤ g1)); clear HB ; have HB := m0; have B1 := m1; have G1 := m2; clear m0 m1 m2; clear hb hbox hg) | ((with_reducible refine gate_dst (N := 2) rfl ?_); (try (refine gate_guard (by rfl) ?_; dsimp only)); refine box_event ?hg (N := 2) ?hd (cs := #[.slice none 0 0]) (t := 25) ?hr ?_; (case hd => rfl); (case hg => rfl); (case hr => first | (go_simp; done) | (go_simp; rfl)); intro g2 hg w2 hbox hb; have m0 := Aside0.mk (below_step (by repeat (first | (with_reducible first | exact HB.out | apply below_alloc | apply pw_below_drewN | apply below_drew1) | exact HB.out)) hb); have m1 := Aside0.mk hbox; have m2 := Aside0.mk ((by rw [hg]; exact (below_size (by repeat (first | (with_reducible first | exact HB.out | apply below_alloc | apply pw_below_drewN | apply below_drew1) | exact HB.out))) : w.heap.size ≤ g2)); have m3 := Aside0.mk (blk_below (g := g1) (o := (.cells #[.int .i64 a0, .int .i64 a1, .int .i64 a2, .string a3, .int .i64 a4] 24 (0, 0))) (by (with_reducible repeat (first | refine blk_drewN ?_ _ | refine blk_drew ?_ | refine blk_alloc ?_ _)); exact B1.out) hb); have m4 := Aside0.mk ((by rw [hg]; exact (blk_lt (g := g1) (o := (.cells #[.int .i64 a0, .int .i64 a1, .int .i64 a2, .string a3, .int .i64 a4] 24 (0, 0))) (by (with_reducible repeat (first | refine blk_drewN ?_ _ | refine blk_drew ?_ | refine blk_alloc ?_ _)); exact B1.out))) : g1 < g2); clear HB B1; have HB := m0; have B2 := m1; have G2 := m2; have B1 := m3; have Ng1g2 := m4; clear m0 m1 m2 m3 m4; clear hb hbox hg) | ((with_reducible refine gate_dst (N := 3) rfl ?_); (try (refine gate_guard (by rfl) ?_; dsimp only)); refine box_event ?hg (N := 3) ?hd (cs := #[.int .i64 0]) (t := 28) ?hr ?_; (case hd => rfl); (case hg => rfl); (case hr => first | (go_simp; done) | (go_simp; rfl)); intro g3 hg w3 hbox hb; have m0 := Aside0.mk (below_step (by repeat (first | (with_reducible first | exact HB.out | apply below_alloc | apply pw_below_drewN | apply below_drew1) | exact HB.out)) hb); have m1 := Aside0.mk hbox; have m2 := Aside0.mk ((by rw [hg]; exact (below_size (by repeat (first | (with_reducible first | exact HB.out | apply below_alloc | apply pw_below_drewN | apply below_drew1) | exact HB.out))) : w.heap.size ≤ g3)); have m3 := Aside0.mk (blk_below (g := g1) (o := (.cells #[.int .i64 a0, .int .i64 a1, .int .i64 a2, .string a3, .int .i64 a4] 24 (0, 0))) (by (with_reducible repeat (first | refine blk_drewN ?_ _ | refine blk_drew ?_ | refine blk_alloc ?_ _)); exact B1.out) hb); have m4 := Aside0.mk ((by rw [hg]; exact (blk_lt (g := g1) (o := (.cells #[.int .i64 a0, .int .i64 a1, .int .i64 a2, .string a3, .int .i64 a4] 24 (0, 0))) (by (with_reducible repeat (first | refine blk_drewN ?_ _ | refine blk_drew ?_ | refine blk_alloc ?_ _)); exact B1.out))) : g1 < g3); have m5 := Aside0.mk (blk_below (g := g2) (o := (.cells #[.slice none 0 0] 25 (0, 0))) (by (with_reducible repeat (first | refine blk_drewN ?_ _ | refine blk_drew ?_ | refine blk_alloc ?_ _)); exact B2.out) hb); have m6 := Aside0.mk ((by rw [hg]; exact (blk_lt (g := g2) (o := (.cells #[.slice none 0 0] 25 (0, 0))) (by (with_reducible repeat (first | refine blk_drewN ?_ _ | refine blk_drew ?_ | refine blk_alloc ?_ _)); exact B2.out))) : g2 < g3); clear HB B1 B2; have HB := m0; have B3 := m1; have G3 := m2; have B1 := m3; have Ng1g3 := m4; have B2 := m5; have Ng2g3 := m6; clear m0 m1 m2 m3 m4 m5 m6; clear hb hbox hg))
  have hk1 : w3.cell? ⟨g1, 0, none⟩ = some (.int .i64 a0) := by
    have q := blk_cell B1.out 0
    simpa using q
  refine (wpa_some a0 os HOS.out g1 w3 hk1).mono ?_
  rintro e w4 ⟨L1, rfl, hb, hL, hlb⟩
  have BL := Aside0.mk hlb
  clear hk1
  have m0 := Aside0.mk (below_step (by repeat (first | (with_reducible first | exact HB.out | apply below_alloc | apply pw_below_drewN | apply below_drew1) | exact HB.out)) hb)
  have m1 := Aside0.mk (blk_below (g := g1) (o := (.cells #[.int .i64 a0, .int .i64 a1, .int .i64 a2, .string a3, .int .i64 a4] 24 (0, 0))) (by (with_reducible repeat (first | refine blk_drewN ?_ _ | refine blk_drew ?_ | refine blk_alloc ?_ _)); exact B1.out) hb)
  have m2 := Aside0.mk (blk_below (g := g2) (o := (.cells #[.slice none 0 0] 25 (0, 0))) (by (with_reducible repeat (first | refine blk_drewN ?_ _ | refine blk_drew ?_ | refine blk_alloc ?_ _)); exact B2.out) hb)
  have m3 := Aside0.mk (blk_below (g := g3) (o := (.cells #[.int .i64 0] 28 (0, 0))) (by (with_reducible repeat (first | refine blk_drewN ?_ _ | refine blk_drew ?_ | refine blk_alloc ?_ _)); exact B3.out) hb)
  clear HB B1 B2 B3
  have HB := m0
  have B1 := m1
  have B2 := m2
  have B3 := m3
  clear m0 m1 m2 m3
  clear hb hL hlb
  have hk1 := blk_cell B1.out 0
  simp only [List.getElem?_toArray, List.getElem?_cons_zero, List.getElem?_cons_succ] at hk1
  go_wp2_with (first | ((with_reducible refine gate_dst (N := 5) rfl ?_); (try (refine gate_guard (by rfl) ?_; dsimp only)); refine box_event ?hg (N := 5) ?hd (cs := #[.int .i64 0, .int .i64 0, .int .i64 0, .string ⟨#[]⟩, .int .i64 0]) (t := 24) ?hr ?_; (case hd => rfl); (case hg => rfl); (case hr => first | (go_simp; done) | (go_simp; rfl)); intro g5 hg w5 hbox hb; have m0 := Aside0.mk (below_step (by repeat (first | (with_reducible first | exact HB.out | apply below_alloc | apply pw_below_drewN | apply below_drew1) | exact HB.out)) hb); have m1 := Aside0.mk hbox; have m2 := Aside0.mk ((by rw [hg]; exact (below_size (by repeat (first | (with_reducible first | exact HB.out | apply below_alloc | apply pw_below_drewN | apply below_drew1) | exact HB.out))) : w.heap.size ≤ g5)); have m3 := Aside0.mk (blk_below (g := g1) (o := (.cells #[.int .i64 a0, .int .i64 a1, .int .i64 a2, .string a3, .int .i64 a4] 24 (0, 0))) (by (with_reducible repeat (first | refine blk_drewN ?_ _ | refine blk_drew ?_ | refine blk_alloc ?_ _)); exact B1.out) hb); have m4 := Aside0.mk ((by rw [hg]; exact (blk_lt (g := g1) (o := (.cells #[.int .i64 a0, .int .i64 a1, .int .i64 a2, .string a3, .int .i64 a4] 24 (0, 0))) (by (with_reducible repeat (first | refine blk_drewN ?_ _ | refine blk_drew ?_ | refine blk_alloc ?_ _)); exact B1.out))) : g1 < g5); have m5 := Aside0.mk (blk_below (g := g2) (o := (.cells #[.slice none 0 0] 25 (0, 0))) (by (with_reducible repeat (first | refine blk_drewN ?_ _ | refine blk_drew ?_ | refine blk_alloc ?_ _)); exact B2.out) hb); have m6 := Aside0.mk ((by rw [hg]; exact (blk_lt (g := g2) (o := (.cells #[.slice none 0 0] 25 (0, 0))) (by (with_reducible repeat (first | refine blk_drewN ?_ _ | refine blk_drew ?_ | refine blk_alloc ?_ _)); exact B2.out))) : g2 < g5); have m7 := Aside0.mk (blk_below (g := g3) (o := (.cells #[.int .i64 0] 28 (0, 0))) (by (with_reducible repeat (first | refine blk_drewN ?_ _ | refine blk_drew ?_ | refine blk_alloc ?_ _)); exact B3.out) hb); have m8 := Aside0.mk ((by rw [hg]; exact (blk_lt (g := g3) (o := (.cells #[.int .i64 0] 28 (0, 0))) (by (with_reducible repeat (first | refine blk_drewN ?_ _ | refine blk_drew ?_ | refine blk_alloc ?_ _)); exact B3.out))) : g3 < g5); have m9 := Aside0.mk (blk_below (g := L1) (o := (lob (fps 3 g1 os))) (by (with_reducible repeat (first | refine blk_drewN ?_ _ | refine blk_drew ?_ | refine blk_alloc ?_ _)); exact BL.out) hb); have m10 := Aside0.mk ((by rw [hg]; exact (blk_lt (g := L1) (o := (lob (fps 3 g1 os))) (by (with_reducible repeat (first | refine blk_drewN ?_ _ | refine blk_drew ?_ | refine blk_alloc ?_ _)); exact BL.out))) : L1 < g5); clear hk1; clear HB B1 B2 B3 BL; have HB := m0; have B5 := m1; have G5 := m2; have B1 := m3; have Ng1g5 := m4; have B2 := m5; have Ng2g5 := m6; have B3 := m7; have Ng3g5 := m8; have BL := m9; have NL1g5 := m10; clear m0 m1 m2 m3 m4 m5 m6 m7 m8 m9 m10; clear hb hbox hg; have hcB50 := blk_cell B5.out 0; simp only [List.getElem?_toArray, List.getElem?_cons_zero, List.getElem?_cons_succ] at hcB50; have hfB50 := blk_frozen B5.out 0; have hcB51 := blk_cell B5.out 1; simp only [List.getElem?_toArray, List.getElem?_cons_zero, List.getElem?_cons_succ] at hcB51; have hfB51 := blk_frozen B5.out 1; have hcB52 := blk_cell B5.out 2; simp only [List.getElem?_toArray, List.getElem?_cons_zero, List.getElem?_cons_succ] at hcB52; have hfB52 := blk_frozen B5.out 2; have hcB53 := blk_cell B5.out 3; simp only [List.getElem?_toArray, List.getElem?_cons_zero, List.getElem?_cons_succ] at hcB53; have hfB53 := blk_frozen B5.out 3; have hcB54 := blk_cell B5.out 4; simp only [List.getElem?_toArray, List.getElem?_cons_zero, List.getElem?_cons_succ] at hcB54; have hfB54 := blk_frozen B5.out 4))
  have m5 := (blk_put (cs' := #[.int .i64 a0, .int .i64 0, .int .i64 0, .string ⟨#[]⟩, .int .i64 0]) (blk_put (cs' := #[.int .i64 a0, .int .i64 0, .int .i64 0, .string ⟨#[]⟩, .int .i64 0]) (blk_put (cs' := #[.int .i64 a0, .int .i64 0, .int .i64 0, .string ⟨#[]⟩, .int .i64 0]) (blk_put (cs' := #[.int .i64 a0, .int .i64 0, .int .i64 0, .string ⟨#[]⟩, .int .i64 0]) (blk_put (cs' := #[.int .i64 a0, .int .i64 0, .int .i64 0, .string ⟨#[]⟩, .int .i64 0]) B5.out 0 (.int .i64 a0) rfl) 1 (.int .i64 0) rfl) 2 (.int .i64 0) rfl) 3 (.string ⟨#[]⟩) rfl) 4 (.int .i64 0) rfl)
  have m1 := (blk_far (p := ⟨g5, 4, none⟩) (blk_far (p := ⟨g5, 3, none⟩) (blk_far (p := ⟨g5, 2, none⟩) (blk_far (p := ⟨g5, 1, none⟩) (blk_far (p := ⟨g5, 0, none⟩) B1.out (Nat.ne_of_lt Ng1g5.out) (.int .i64 a0)) (Nat.ne_of_lt Ng1g5.out) (.int .i64 0)) (Nat.ne_of_lt Ng1g5.out) (.int .i64 0)) (Nat.ne_of_lt Ng1g5.out) (.string ⟨#[]⟩)) (Nat.ne_of_lt Ng1g5.out) (.int .i64 0))
  have m2 := (blk_far (p := ⟨g5, 4, none⟩) (blk_far (p := ⟨g5, 3, none⟩) (blk_far (p := ⟨g5, 2, none⟩) (blk_far (p := ⟨g5, 1, none⟩) (blk_far (p := ⟨g5, 0, none⟩) B2.out (Nat.ne_of_lt Ng2g5.out) (.int .i64 a0)) (Nat.ne_of_lt Ng2g5.out) (.int .i64 0)) (Nat.ne_of_lt Ng2g5.out) (.int .i64 0)) (Nat.ne_of_lt Ng2g5.out) (.string ⟨#[]⟩)) (Nat.ne_of_lt Ng2g5.out) (.int .i64 0))
  have m3 := (blk_far (p := ⟨g5, 4, none⟩) (blk_far (p := ⟨g5, 3, none⟩) (blk_far (p := ⟨g5, 2, none⟩) (blk_far (p := ⟨g5, 1, none⟩) (blk_far (p := ⟨g5, 0, none⟩) B3.out (Nat.ne_of_lt Ng3g5.out) (.int .i64 a0)) (Nat.ne_of_lt Ng3g5.out) (.int .i64 0)) (Nat.ne_of_lt Ng3g5.out) (.int .i64 0)) (Nat.ne_of_lt Ng3g5.out) (.string ⟨#[]⟩)) (Nat.ne_of_lt Ng3g5.out) (.int .i64 0))
  have ml := (blk_far (p := ⟨g5, 4, none⟩) (blk_far (p := ⟨g5, 3, none⟩) (blk_far (p := ⟨g5, 2, none⟩) (blk_far (p := ⟨g5, 1, none⟩) (blk_far (p := ⟨g5, 0, none⟩) BL.out (Nat.ne_of_lt NL1g5.out) (.int .i64 a0)) (Nat.ne_of_lt NL1g5.out) (.int .i64 0)) (Nat.ne_of_lt NL1g5.out) (.int .i64 0)) (Nat.ne_of_lt NL1g5.out) (.string ⟨#[]⟩)) (Nat.ne_of_lt NL1g5.out) (.int .i64 0))
  have m0 := (((((HB.out.setCell (p := ⟨g5, 0, none⟩) G5.out (.int .i64 a0)).setCell (p := ⟨g5, 1, none⟩) G5.out (.int .i64 0)).setCell (p := ⟨g5, 2, none⟩) G5.out (.int .i64 0)).setCell (p := ⟨g5, 3, none⟩) G5.out (.string ⟨#[]⟩)).setCell (p := ⟨g5, 4, none⟩) G5.out (.int .i64 0))
  clear HB B1 B2 B3 B5 BL hcB50 hfB50 hcB51 hfB51 hcB52 hfB52 hcB53 hfB53 hcB54 hfB54
  generalize (((((w5.setCell ⟨g5, 0, none⟩ (.int .i64 a0)).setCell ⟨g5, 1, none⟩ (.int .i64 0)).setCell ⟨g5, 2, none⟩ (.int .i64 0)).setCell ⟨g5, 3, none⟩ (.string ⟨#[]⟩)).setCell ⟨g5, 4, none⟩ (.int .i64 0)) = w6 at m0 m1 m2 m3 m5 ml ⊢
  have hk5 : w6.cell? ⟨g5, 0, none⟩ = some (.int .i64 a0) := by
    have q := blk_cell m5 0
    simpa using q
  refine (wpa_some a0 os HOS.out g5 w6 hk5).mono ?_
  rintro e w7 ⟨L2, rfl, hb, hL, hlb⟩
  have N15 := Aside0.mk (Nat.ne_of_lt Ng1g5.out)
  have hcp := wcopied 3 g1 g5 L2 L1 24 os #[.int .i64 a0, .int .i64 a1, .int .i64 a2, .string a3, .int .i64 a4] #[.int .i64 a0, .int .i64 0, .int .i64 0, .string ⟨#[]⟩, .int .i64 0] w7 hlb (blk_below ml hb) (blk_below m1 hb) (blk_below m5 hb) (Nat.ne_of_lt Ng1g5.out) (by decide) (typed_msg a0 a1 a2 a3 a4) (offs_msg HOS.out).1 rfl (offs_msg HOS.out).2
  have HB := Aside0.mk (below_step m0 hb)
  have B1 := Aside0.mk (blk_below m1 hb)
  have B2 := Aside0.mk (blk_below m2 hb)
  have B3 := Aside0.mk (blk_below m3 hb)
  have BL := Aside0.mk (blk_below ml hb)
  clear m0 m1 m2 m3 m5 ml hb hL hlb hk5
  go_wp2_with (fail)
  refine hcp.mono ?_
  clear hcp
  rintro e w8 ⟨rfl, h5, hfar, hbw⟩
  have q1 := (hfar g1 N15.out).trans B1.out
  have q2 := (hfar g2 (Nat.ne_of_lt Ng2g5.out)).trans B2.out
  have q3 := (hfar g3 (Nat.ne_of_lt Ng3g5.out)).trans B3.out
  have ql := (hfar L1 (Nat.ne_of_lt NL1g5.out)).trans BL.out
  have q0 := HB.out.trans (hbw w.heap.size G5.out)
  rw [cpy_msg os a0 a1 a2 a3 a4 HOS.out] at h5
  clear HB B1 B2 B3 BL hfar hbw
  have HB := Aside0.mk q0
  have B1 := Aside0.mk q1
  have B2 := Aside0.mk q2
  have B3 := Aside0.mk q3
  have BL := Aside0.mk ql
  have hEq : ∀ w, (binOp .eql 24 (.agg #[.int .i64 a0, .int .i64 (pickN os 1 a1), .int .i64 (pickN os 2 a2), .string (pickS os 3 a3), .int .i64 (pickN os 4 a4)]) (.agg #[.int .i64 a0, .int .i64 a1, .int .i64 a2, .string a3, .int .i64 a4])).run Try.prog w = .ok (.bool false) w := by
    intro w
    rw [wneq_msg, ← HPL.out]
    simp [msgPlain]
  obtain ⟨p1, hp1⟩ : ∃ p, pickN os 1 a1 = p := ⟨_, rfl⟩
  obtain ⟨p2, hp2⟩ : ∃ p, pickN os 2 a2 = p := ⟨_, rfl⟩
  obtain ⟨p3, hp3⟩ : ∃ p, pickS os 3 a3 = p := ⟨_, rfl⟩
  obtain ⟨p4, hp4⟩ : ∃ p, pickN os 4 a4 = p := ⟨_, rfl⟩
  simp only [hp1, hp2, hp3, hp4] at h5 hEq
  clear q0 q1 q2 q3 ql hp1 hp2 hp3 hp4
  have B5 := Aside0.mk h5
  clear h5
  have hcB50 := blk_cell B5.out 0
  simp only [List.getElem?_toArray, List.getElem?_cons_zero, List.getElem?_cons_succ] at hcB50
  have hcB51 := blk_cell B5.out 1
  simp only [List.getElem?_toArray, List.getElem?_cons_zero, List.getElem?_cons_succ] at hcB51
  have hcB52 := blk_cell B5.out 2
  simp only [List.getElem?_toArray, List.getElem?_cons_zero, List.getElem?_cons_succ] at hcB52
  have hcB53 := blk_cell B5.out 3
  simp only [List.getElem?_toArray, List.getElem?_cons_zero, List.getElem?_cons_succ] at hcB53
  have hcB54 := blk_cell B5.out 4
  simp only [List.getElem?_toArray, List.getElem?_cons_zero, List.getElem?_cons_succ] at hcB54
  have hcB10 := blk_cell B1.out 0
  simp only [List.getElem?_toArray, List.getElem?_cons_zero, List.getElem?_cons_succ] at hcB10
  have hcB11 := blk_cell B1.out 1
  simp only [List.getElem?_toArray, List.getElem?_cons_zero, List.getElem?_cons_succ] at hcB11
  have hcB12 := blk_cell B1.out 2
  simp only [List.getElem?_toArray, List.getElem?_cons_zero, List.getElem?_cons_succ] at hcB12
  have hcB13 := blk_cell B1.out 3
  simp only [List.getElem?_toArray, List.getElem?_cons_zero, List.getElem?_cons_succ] at hcB13
  have hcB14 := blk_cell B1.out 4
  simp only [List.getElem?_toArray, List.getElem?_cons_zero, List.getElem?_cons_succ] at hcB14
  have hnn := fun (w : World) => run_neq_slice_nil_any (P := Try.prog) w 52 20 (some ⟨L1, 0, none⟩) os.length os.length 0 0 Try.underlying52
  go_wp2_with (first | ((go_at_call 27); (with_reducible refine (must_bad _).mono ?_); rintro e wm ⟨rfl, rfl⟩))
  refine doorB_bad 23 clMsgBytes_bad (fun _ _ _ => by simp [go_sem]) Try.f10 rfl _ g2 g3 w.heap.size rfl rfl 0 (.slice none 0 0) w _ HB.out (below_size HB.out) G2.out G3.out B2.out B3.out _ ?_
  intro w' hb
  exact ⟨rfl, hb⟩

set_option maxHeartbeats 8000000 in
set_option maxRecDepth 100000 in
theorem wMsgBytes_some (k : Nat) (os : List Nat) (t0 : List Int) (RES : Option (List Int)) (a0 : Int) (a1 : Int) (a2 : Int) (a3 : ByteArray) (a4 : Int) (w : World) (ho : msgOffs a0 = some os) (hpl : msgPlain os a1 a2 a3 a4 = true) (ht : code_Num.f k (IntKind.u64.wrap a0) = some t0) (hres : wireWr k (msgFlds os a0 a1 a2 a3 a4) t0 = some RES) :
    Calls Try.prog 10 #[.agg #[.int .i64 a0, .int .i64 a1, .int .i64 a2, .string a3, .int .i64 a4]] w fun e w' => ((∃ r v, RES = some r ∧ e = .returned (.tuple #[v, .int .i64 0]) ∧ Kd.R (Kd.int .u8) 5 w' w.heap.size (fun _ => True) v r) ∨ (RES = none ∧ e = .returned (.tuple #[.slice none 0 0, .int .i64 220]))) ∧ Below w.heap.size w w' := by
  have HB := Aside0.mk (Below.refl w.heap.size w)
  have hmf : ∀ (fn : Fn) (first cap : Array Value) (w : World), (Instr.makeFunc fn first cap).run Try.prog w = .ok (.func fn first cap) w := fun _ _ _ _ => rfl
  have HOS := Aside0.mk ho
  have HPL := Aside0.mk hpl
  have HT := Aside0.mk ht
  have HRES := Aside0.mk hres
  clear ho hpl ht hres
  go_enter_defers Try.func10, Try.ntmps10
  go_wp2_with (first | ((with_reducible refine gate_dst (N := 1) rfl ?_); (try (refine gate_guard (by rfl) ?_; dsimp only)); refine box_event ?hg (N := 1) ?hd (cs := #[.int .i64 a0, .int .i64 a1, .int .i64 a2, .string a3, .int .i64 a4]) (t := 24) ?hr ?_; (case hd => rfl); (case hg => rfl); (case hr => first | (go_simp; done) | (go_simp; rfl)); intro g1 hg w1 hbox hb; have m0 := Aside0.mk (below_step (by repeat (first | (with_reducible first | exact HB.out | apply below_alloc | apply pw_below_drewN | apply below_drew1) | exact HB.out)) hb); have m1 := Aside0.mk hbox; have m2 := Aside0.mk ((by rw [hg]; exact (below_size (by repeat (first | (with_reducible first | exact HB.out | apply below_alloc | apply pw_below_drewN | apply below_drew1) | exact HB.out))) : w.heap.size ≤ g1)); clear HB ; have HB := m0; have B1 := m1; have G1 := m2; clear m0 m1 m2; clear hb hbox hg) | ((with_reducible refine gate_dst (N := 2) rfl ?_); (try (refine gate_guard (by rfl) ?_; dsimp only)); refine box_event ?hg (N := 2) ?hd (cs := #[.slice none 0 0]) (t := 25) ?hr ?_; (case hd => rfl); (case hg => rfl); (case hr => first | (go_simp; done) | (go_simp; rfl)); intro g2 hg w2 hbox hb; have m0 := Aside0.mk (below_step (by repeat (first | (with_reducible first | exact HB.out | apply below_alloc | apply pw_below_drewN | apply below_drew1) | exact HB.out)) hb); have m1 := Aside0.mk hbox; have m2 := Aside0.mk ((by rw [hg]; exact (below_size (by repeat (first | (with_reducible first | exact HB.out | apply below_alloc | apply pw_below_drewN | apply below_drew1) | exact HB.out))) : w.heap.size ≤ g2)); have m3 := Aside0.mk (blk_below (g := g1) (o := (.cells #[.int .i64 a0, .int .i64 a1, .int .i64 a2, .string a3, .int .i64 a4] 24 (0, 0))) (by (with_reducible repeat (first | refine blk_drewN ?_ _ | refine blk_drew ?_ | refine blk_alloc ?_ _)); exact B1.out) hb); have m4 := Aside0.mk ((by rw [hg]; exact (blk_lt (g := g1) (o := (.cells #[.int .i64 a0, .int .i64 a1, .int .i64 a2, .string a3, .int .i64 a4] 24 (0, 0))) (by (with_reducible repeat (first | refine blk_drewN ?_ _ | refine blk_drew ?_ | refine blk_alloc ?_ _)); exact B1.out))) : g1 < g2); clear HB B1; have HB := m0; have B2 := m1; have G2 := m2; have B1 := m3; have Ng1g2 := m4; clear m0 m1 m2 m3 m4; clear hb hbox hg) | ((with_reducible refine gate_dst (N := 3) rfl ?_); (try (refine gate_guard (by rfl) ?_; dsimp only)); refine box_event ?hg (N := 3) ?hd (cs := #[.int .i64 0]) (t := 28) ?hr ?_; (case hd => rfl); (case hg => rfl); (case hr => first | (go_simp; done) | (go_simp; rfl)); intro g3 hg w3 hbox hb; have m0 := Aside0.mk (below_step (by repeat (first | (with_reducible first | exact HB.out | apply below_alloc | apply pw_below_drewN | apply below_drew1) | exact HB.out)) hb); have m1 := Aside0.mk hbox; have m2 := Aside0.mk ((by rw [hg]; exact (below_size (by repeat (first | (with_reducible first | exact HB.out | apply below_alloc | apply pw_below_drewN | apply below_drew1) | exact HB.out))) : w.heap.size ≤ g3)); have m3 := Aside0.mk (blk_below (g := g1) (o := (.cells #[.int .i64 a0, .int .i64 a1, .int .i64 a2, .string a3, .int .i64 a4] 24 (0, 0))) (by (with_reducible repeat (first | refine blk_drewN ?_ _ | refine blk_drew ?_ | refine blk_alloc ?_ _)); exact B1.out) hb); have m4 := Aside0.mk ((by rw [hg]; exact (blk_lt (g := g1) (o := (.cells #[.int .i64 a0, .int .i64 a1, .int .i64 a2, .string a3, .int .i64 a4] 24 (0, 0))) (by (with_reducible repeat (first | refine blk_drewN ?_ _ | refine blk_drew ?_ | refine blk_alloc ?_ _)); exact B1.out))) : g1 < g3); have m5 := Aside0.mk (blk_below (g := g2) (o := (.cells #[.slice none 0 0] 25 (0, 0))) (by (with_reducible repeat (first | refine blk_drewN ?_ _ | refine blk_drew ?_ | refine blk_alloc ?_ _)); exact B2.out) hb); have m6 := Aside0.mk ((by rw [hg]; exact (blk_lt (g := g2) (o := (.cells #[.slice none 0 0] 25 (0, 0))) (by (with_reducible repeat (first | refine blk_drewN ?_ _ | refine blk_drew ?_ | refine blk_alloc ?_ _)); exact B2.out))) : g2 < g3); clear HB B1 B2; have HB := m0; have B3 := m1; have G3 := m2; have B1 := m3; have Ng1g3 := m4; have B2 := m5; have Ng2g3 := m6; clear m0 m1 m2 m3 m4 m5 m6; clear hb hbox hg))
  have hk1 : w3.cell? ⟨g1, 0, none⟩ = some (.int .i64 a0) := by
    have q := blk_cell B1.out 0
    simpa using q
  refine (wpa_some a0 os HOS.out g1 w3 hk1).mono ?_
  rintro e w4 ⟨L1, rfl, hb, hL, hlb⟩
  have BL := Aside0.mk hlb
  clear hk1
  have m0 := Aside0.mk (below_step (by repeat (first | (with_reducible first | exact HB.out | apply below_alloc | apply pw_below_drewN | apply below_drew1) | exact HB.out)) hb)
  have m1 := Aside0.mk (blk_below (g := g1) (o := (.cells #[.int .i64 a0, .int .i64 a1, .int .i64 a2, .string a3, .int .i64 a4] 24 (0, 0))) (by (with_reducible repeat (first | refine blk_drewN ?_ _ | refine blk_drew ?_ | refine blk_alloc ?_ _)); exact B1.out) hb)
  have m2 := Aside0.mk (blk_below (g := g2) (o := (.cells #[.slice none 0 0] 25 (0, 0))) (by (with_reducible repeat (first | refine blk_drewN ?_ _ | refine blk_drew ?_ | refine blk_alloc ?_ _)); exact B2.out) hb)
  have m3 := Aside0.mk (blk_below (g := g3) (o := (.cells #[.int .i64 0] 28 (0, 0))) (by (with_reducible repeat (first | refine blk_drewN ?_ _ | refine blk_drew ?_ | refine blk_alloc ?_ _)); exact B3.out) hb)
  clear HB B1 B2 B3
  have HB := m0
  have B1 := m1
  have B2 := m2
  have B3 := m3
  clear m0 m1 m2 m3
  clear hb hL hlb
  have hk1 := blk_cell B1.out 0
  simp only [List.getElem?_toArray, List.getElem?_cons_zero, List.getElem?_cons_succ] at hk1
  go_wp2_with (first | ((with_reducible refine gate_dst (N := 5) rfl ?_); (try (refine gate_guard (by rfl) ?_; dsimp only)); refine box_event ?hg (N := 5) ?hd (cs := #[.int .i64 0, .int .i64 0, .int .i64 0, .string ⟨#[]⟩, .int .i64 0]) (t := 24) ?hr ?_; (case hd => rfl); (case hg => rfl); (case hr => first | (go_simp; done) | (go_simp; rfl)); intro g5 hg w5 hbox hb; have m0 := Aside0.mk (below_step (by repeat (first | (with_reducible first | exact HB.out | apply below_alloc | apply pw_below_drewN | apply below_drew1) | exact HB.out)) hb); have m1 := Aside0.mk hbox; have m2 := Aside0.mk ((by rw [hg]; exact (below_size (by repeat (first | (with_reducible first | exact HB.out | apply below_alloc | apply pw_below_drewN | apply below_drew1) | exact HB.out))) : w.heap.size ≤ g5)); have m3 := Aside0.mk (blk_below (g := g1) (o := (.cells #[.int .i64 a0, .int .i64 a1, .int .i64 a2, .string a3, .int .i64 a4] 24 (0, 0))) (by (with_reducible repeat (first | refine blk_drewN ?_ _ | refine blk_drew ?_ | refine blk_alloc ?_ _)); exact B1.out) hb); have m4 := Aside0.mk ((by rw [hg]; exact (blk_lt (g := g1) (o := (.cells #[.int .i64 a0, .int .i64 a1, .int .i64 a2, .string a3, .int .i64 a4] 24 (0, 0))) (by (with_reducible repeat (first | refine blk_drewN ?_ _ | refine blk_drew ?_ | refine blk_alloc ?_ _)); exact B1.out))) : g1 < g5); have m5 := Aside0.mk (blk_below (g := g2) (o := (.cells #[.slice none 0 0] 25 (0, 0))) (by (with_reducible repeat (first | refine blk_drewN ?_ _ | refine blk_drew ?_ | refine blk_alloc ?_ _)); exact B2.out) hb); have m6 := Aside0.mk ((by rw [hg]; exact (blk_lt (g := g2) (o := (.cells #[.slice none 0 0] 25 (0, 0))) (by (with_reducible repeat (first | refine blk_drewN ?_ _ | refine blk_drew ?_ | refine blk_alloc ?_ _)); exact B2.out))) : g2 < g5); have m7 := Aside0.mk (blk_below (g := g3) (o := (.cells #[.int .i64 0] 28 (0, 0))) (by (with_reducible repeat (first | refine blk_drewN ?_ _ | refine blk_drew ?_ | refine blk_alloc ?_ _)); exact B3.out) hb); have m8 := Aside0.mk ((by rw [hg]; exact (blk_lt (g := g3) (o := (.cells #[.int .i64 0] 28 (0, 0))) (by (with_reducible repeat (first | refine blk_drewN ?_ _ | refine blk_drew ?_ | refine blk_alloc ?_ _)); exact B3.out))) : g3 < g5); have m9 := Aside0.mk (blk_below (g := L1) (o := (lob (fps 3 g1 os))) (by (with_reducible repeat (first | refine blk_drewN ?_ _ | refine blk_drew ?_ | refine blk_alloc ?_ _)); exact BL.out) hb); have m10 := Aside0.mk ((by rw [hg]; exact (blk_lt (g := L1) (o := (lob (fps 3 g1 os))) (by (with_reducible repeat (first | refine blk_drewN ?_ _ | refine blk_drew ?_ | refine blk_alloc ?_ _)); exact BL.out))) : L1 < g5); clear hk1; clear HB B1 B2 B3 BL; have HB := m0; have B5 := m1; have G5 := m2; have B1 := m3; have Ng1g5 := m4; have B2 := m5; have Ng2g5 := m6; have B3 := m7; have Ng3g5 := m8; have BL := m9; have NL1g5 := m10; clear m0 m1 m2 m3 m4 m5 m6 m7 m8 m9 m10; clear hb hbox hg; have hcB50 := blk_cell B5.out 0; simp only [List.getElem?_toArray, List.getElem?_cons_zero, List.getElem?_cons_succ] at hcB50; have hfB50 := blk_frozen B5.out 0; have hcB51 := blk_cell B5.out 1; simp only [List.getElem?_toArray, List.getElem?_cons_zero, List.getElem?_cons_succ] at hcB51; have hfB51 := blk_frozen B5.out 1; have hcB52 := blk_cell B5.out 2; simp only [List.getElem?_toArray, List.getElem?_cons_zero, List.getElem?_cons_succ] at hcB52; have hfB52 := blk_frozen B5.out 2; have hcB53 := blk_cell B5.out 3; simp only [List.getElem?_toArray, List.getElem?_cons_zero, List.getElem?_cons_succ] at hcB53; have hfB53 := blk_frozen B5.out 3; have hcB54 := blk_cell B5.out 4; simp only [List.getElem?_toArray, List.getElem?_cons_zero, List.getElem?_cons_succ] at hcB54; have hfB54 := blk_frozen B5.out 4))
  have m5 := (blk_put (cs' := #[.int .i64 a0, .int .i64 0, .int .i64 0, .string ⟨#[]⟩, .int .i64 0]) (blk_put (cs' := #[.int .i64 a0, .int .i64 0, .int .i64 0, .string ⟨#[]⟩, .int .i64 0]) (blk_put (cs' := #[.int .i64 a0, .int .i64 0, .int .i64 0, .string ⟨#[]⟩, .int .i64 0]) (blk_put (cs' := #[.int .i64 a0, .int .i64 0, .int .i64 0, .string ⟨#[]⟩, .int .i64 0]) (blk_put (cs' := #[.int .i64 a0, .int .i64 0, .int .i64 0, .string ⟨#[]⟩, .int .i64 0]) B5.out 0 (.int .i64 a0) rfl) 1 (.int .i64 0) rfl) 2 (.int .i64 0) rfl) 3 (.string ⟨#[]⟩) rfl) 4 (.int .i64 0) rfl)
  have m1 := (blk_far (p := ⟨g5, 4, none⟩) (blk_far (p := ⟨g5, 3, none⟩) (blk_far (p := ⟨g5, 2, none⟩) (blk_far (p := ⟨g5, 1, none⟩) (blk_far (p := ⟨g5, 0, none⟩) B1.out (Nat.ne_of_lt Ng1g5.out) (.int .i64 a0)) (Nat.ne_of_lt Ng1g5.out) (.int .i64 0)) (Nat.ne_of_lt Ng1g5.out) (.int .i64 0)) (Nat.ne_of_lt Ng1g5.out) (.string ⟨#[]⟩)) (Nat.ne_of_lt Ng1g5.out) (.int .i64 0))
  have m2 := (blk_far (p := ⟨g5, 4, none⟩) (blk_far (p := ⟨g5, 3, none⟩) (blk_far (p := ⟨g5, 2, none⟩) (blk_far (p := ⟨g5, 1, none⟩) (blk_far (p := ⟨g5, 0, none⟩) B2.out (Nat.ne_of_lt Ng2g5.out) (.int .i64 a0)) (Nat.ne_of_lt Ng2g5.out) (.int .i64 0)) (Nat.ne_of_lt Ng2g5.out) (.int .i64 0)) (Nat.ne_of_lt Ng2g5.out) (.string ⟨#[]⟩)) (Nat.ne_of_lt Ng2g5.out) (.int .i64 0))
  have m3 := (blk_far (p := ⟨g5, 4, none⟩) (blk_far (p := ⟨g5, 3, none⟩) (blk_far (p := ⟨g5, 2, none⟩) (blk_far (p := ⟨g5, 1, none⟩) (blk_far (p := ⟨g5, 0, none⟩) B3.out (Nat.ne_of_lt Ng3g5.out) (.int .i64 a0)) (Nat.ne_of_lt Ng3g5.out) (.int .i64 0)) (Nat.ne_of_lt Ng3g5.out) (.int .i64 0)) (Nat.ne_of_lt Ng3g5.out) (.string ⟨#[]⟩)) (Nat.ne_of_lt Ng3g5.out) (.int .i64 0))
  have ml := (blk_far (p := ⟨g5, 4, none⟩) (blk_far (p := ⟨g5, 3, none⟩) (blk_far (p := ⟨g5, 2, none⟩) (blk_far (p := ⟨g5, 1, none⟩) (blk_far (p := ⟨g5, 0, none⟩) BL.out (Nat.ne_of_lt NL1g5.out) (.int .i64 a0)) (Nat.ne_of_lt NL1g5.out) (.int .i64 0)) (Nat.ne_of_lt NL1g5.out) (.int .i64 0)) (Nat.ne_of_lt NL1g5.out) (.string ⟨#[]⟩)) (Nat.ne_of_lt NL1g5.out) (.int .i64 0))
  have m0 := (((((HB.out.setCell (p := ⟨g5, 0, none⟩) G5.out (.int .i64 a0)).setCell (p := ⟨g5, 1, none⟩) G5.out (.int .i64 0)).setCell (p := ⟨g5, 2, none⟩) G5.out (.int .i64 0)).setCell (p := ⟨g5, 3, none⟩) G5.out (.string ⟨#[]⟩)).setCell (p := ⟨g5, 4, none⟩) G5.out (.int .i64 0))
  clear HB B1 B2 B3 B5 BL hcB50 hfB50 hcB51 hfB51 hcB52 hfB52 hcB53 hfB53 hcB54 hfB54
  generalize (((((w5.setCell ⟨g5, 0, none⟩ (.int .i64 a0)).setCell ⟨g5, 1, none⟩ (.int .i64 0)).setCell ⟨g5, 2, none⟩ (.int .i64 0)).setCell ⟨g5, 3, none⟩ (.string ⟨#[]⟩)).setCell ⟨g5, 4, none⟩ (.int .i64 0)) = w6 at m0 m1 m2 m3 m5 ml ⊢
  have hk5 : w6.cell? ⟨g5, 0, none⟩ = some (.int .i64 a0) := by
    have q := blk_cell m5 0
    simpa using q
  refine (wpa_some a0 os HOS.out g5 w6 hk5).mono ?_
  rintro e w7 ⟨L2, rfl, hb, hL, hlb⟩
  have N15 := Aside0.mk (Nat.ne_of_lt Ng1g5.out)
  have hcp := wcopied 3 g1 g5 L2 L1 24 os #[.int .i64 a0, .int .i64 a1, .int .i64 a2, .string a3, .int .i64 a4] #[.int .i64 a0, .int .i64 0, .int .i64 0, .string ⟨#[]⟩, .int .i64 0] w7 hlb (blk_below ml hb) (blk_below m1 hb) (blk_below m5 hb) (Nat.ne_of_lt Ng1g5.out) (by decide) (typed_msg a0 a1 a2 a3 a4) (offs_msg HOS.out).1 rfl (offs_msg HOS.out).2
  have HB := Aside0.mk (below_step m0 hb)
  have B1 := Aside0.mk (blk_below m1 hb)
  have B2 := Aside0.mk (blk_below m2 hb)
  have B3 := Aside0.mk (blk_below m3 hb)
  have BL := Aside0.mk (blk_below ml hb)
  clear m0 m1 m2 m3 m5 ml hb hL hlb hk5
  go_wp2_with (fail)
  refine hcp.mono ?_
  clear hcp
  rintro e w8 ⟨rfl, h5, hfar, hbw⟩
  have q1 := (hfar g1 N15.out).trans B1.out
  have q2 := (hfar g2 (Nat.ne_of_lt Ng2g5.out)).trans B2.out
  have q3 := (hfar g3 (Nat.ne_of_lt Ng3g5.out)).trans B3.out
  have ql := (hfar L1 (Nat.ne_of_lt NL1g5.out)).trans BL.out
  have q0 := HB.out.trans (hbw w.heap.size G5.out)
  rw [cpy_msg os a0 a1 a2 a3 a4 HOS.out] at h5
  clear HB B1 B2 B3 BL hfar hbw
  have HB := Aside0.mk q0
  have B1 := Aside0.mk q1
  have B2 := Aside0.mk q2
  have B3 := Aside0.mk q3
  have BL := Aside0.mk ql
  have hEq : ∀ w, (binOp .eql 24 (.agg #[.int .i64 a0, .int .i64 (pickN os 1 a1), .int .i64 (pickN os 2 a2), .string (pickS os 3 a3), .int .i64 (pickN os 4 a4)]) (.agg #[.int .i64 a0, .int .i64 a1, .int .i64 a2, .string a3, .int .i64 a4])).run Try.prog w = .ok (.bool true) w := by
    intro w
    rw [wneq_msg, ← HPL.out]
    simp [msgPlain]
  obtain ⟨p1, hp1⟩ : ∃ p, pickN os 1 a1 = p := ⟨_, rfl⟩
  obtain ⟨p2, hp2⟩ : ∃ p, pickN os 2 a2 = p := ⟨_, rfl⟩
  obtain ⟨p3, hp3⟩ : ∃ p, pickS os 3 a3 = p := ⟨_, rfl⟩
  obtain ⟨p4, hp4⟩ : ∃ p, pickN os 4 a4 = p := ⟨_, rfl⟩
  simp only [hp1, hp2, hp3, hp4] at h5 hEq
  clear q0 q1 q2 q3 ql hp1 hp2 hp3 hp4
  have B5 := Aside0.mk h5
  clear h5
  have hcB50 := blk_cell B5.out 0
  simp only [List.getElem?_toArray, List.getElem?_cons_zero, List.getElem?_cons_succ] at hcB50
  have hcB51 := blk_cell B5.out 1
  simp only [List.getElem?_toArray, List.getElem?_cons_zero, List.getElem?_cons_succ] at hcB51
  have hcB52 := blk_cell B5.out 2
  simp only [List.getElem?_toArray, List.getElem?_cons_zero, List.getElem?_cons_succ] at hcB52
  have hcB53 := blk_cell B5.out 3
  simp only [List.getElem?_toArray, List.getElem?_cons_zero, List.getElem?_cons_succ] at hcB53
  have hcB54 := blk_cell B5.out 4
  simp only [List.getElem?_toArray, List.getElem?_cons_zero, List.getElem?_cons_succ] at hcB54
  have hcB10 := blk_cell B1.out 0
  simp only [List.getElem?_toArray, List.getElem?_cons_zero, List.getElem?_cons_succ] at hcB10
  have hcB11 := blk_cell B1.out 1
  simp only [List.getElem?_toArray, List.getElem?_cons_zero, List.getElem?_cons_succ] at hcB11
  have hcB12 := blk_cell B1.out 2
  simp only [List.getElem?_toArray, List.getElem?_cons_zero, List.getElem?_cons_succ] at hcB12
  have hcB13 := blk_cell B1.out 3
  simp only [List.getElem?_toArray, List.getElem?_cons_zero, List.getElem?_cons_succ] at hcB13
  have hcB14 := blk_cell B1.out 4
  simp only [List.getElem?_toArray, List.getElem?_cons_zero, List.getElem?_cons_succ] at hcB14
  have hnn := fun (w : World) => run_neq_slice_nil_any (P := Try.prog) w 52 20 (some ⟨L1, 0, none⟩) os.length os.length 0 0 Try.underlying52
  go_wp2_with (first | ((go_at_call 27); (with_reducible refine (must_ok _).mono ?_); rintro e wm ⟨rfl, rfl⟩) | ((with_reducible refine gate_callee (f := 29) rfl ?_); refine goesL_ (some 25) rfl rfl Try.func29 (by kernel_rfl) rfl #[.int .u64 (IntKind.u64.wrap a0)] rfl (by (try simp only [List.map_toArray, List.map_cons, List.map_nil]); first | done | rfl) ?_; (with_reducible refine (code_Num.calls k (IntKind.u64.wrap a0) t0 _ HT.out).mono ?_); rintro e w9 ⟨v9, rfl, hrow, hb⟩; refine ⟨_, rfl, ?_⟩; have HROW := Aside0.mk (Kd.R_lower hrow (below_size HB.out)); have m9 := Aside0.mk (blk_below BL.out hb); clear hcB10 hcB11 hcB12 hcB13 hcB14; clear hcB50 hcB51 hcB52 hcB53 hcB54; clear B5; have m0 := Aside0.mk (below_step (by repeat (first | (with_reducible first | exact HB.out | apply below_alloc | apply pw_below_drewN | apply below_drew1) | exact HB.out)) hb); have m1 := Aside0.mk (blk_below (g := g1) (o := (.cells #[.int .i64 a0, .int .i64 a1, .int .i64 a2, .string a3, .int .i64 a4] 24 (0, 0))) (by (with_reducible repeat (first | refine blk_drewN ?_ _ | refine blk_drew ?_ | refine blk_alloc ?_ _)); exact B1.out) hb); have m2 := Aside0.mk (blk_below (g := g2) (o := (.cells #[.slice none 0 0] 25 (0, 0))) (by (with_reducible repeat (first | refine blk_drewN ?_ _ | refine blk_drew ?_ | refine blk_alloc ?_ _)); exact B2.out) hb); have m3 := Aside0.mk (blk_below (g := g3) (o := (.cells #[.int .i64 0] 28 (0, 0))) (by (with_reducible repeat (first | refine blk_drewN ?_ _ | refine blk_drew ?_ | refine blk_alloc ?_ _)); exact B3.out) hb); clear HB B1 B2 B3; have HB := m0; have B1 := m1; have B2 := m2; have B3 := m3; clear m0 m1 m2 m3; clear BL; have BL := m9; clear m9 hb hrow))
  have hww := wwritten k L1 w.heap.size (fps 3 g1 os) (msgFlds os a0 a1 a2 a3 a4) v9 t0 RES _ BL.out (by simp [fps, msgFlds]) (fields_ok B1.out (typed_msg a0 a1 a2 a3 a4) (offs_msg HOS.out).1 (by decide)) HROW.out (below_size HB.out) (by simpa [msgFlds] using (offs_msg HOS.out).2) HRES.out
  rw [show (fps 3 g1 os).length = os.length by simp [fps]] at hww
  refine hww.mono ?_
  clear hww
  rintro e wz ⟨hcase, hb, hke⟩
  rcases hcase with ⟨v, r, rfl, rfl, hR⟩ | ⟨rfl, rfl⟩
  · obtain ⟨A, c, rfl⟩ := Kd.R_slice hR
    have b2 := hke _ _ _ B2.out (by decide)
    have b3 := hke _ _ _ B3.out (by decide)
    have hb8 := HB.out.trans hb
    clear HB B1 B2 B3 BL HRES hb hke HROW
    have c2 := blk_cell b2 0
    have f2 := blk_frozen b2 0
    have c3 := blk_cell b3 0
    have f3 := blk_frozen b3 0
    simp only [List.getElem?_toArray, List.getElem?_cons_zero, List.getElem?_cons_succ] at c2 c3
    have B2 := Aside0.mk b2
    have B3 := Aside0.mk b3
    have HB := Aside0.mk hb8
    have HR := Aside0.mk hR
    have N23 := Aside0.mk (blk_ne b2 b3 (by decide))
    have hne1 : ¬ g2 = g3 := N23.out
    have hne2 : ¬ g3 = g2 := fun e => N23.out e.symm
    clear b2 b3 hb8 hR
    go_wp2_with (fail)
    have k2 := blk_far (p := ⟨g3, 0, none⟩) (blk_set B2.out 0 (.slice A r.length c)) N23.out (.int .i64 0)
    have k3 := blk_set (blk_far (p := ⟨g2, 0, none⟩) B3.out (Ne.symm N23.out) (.slice A r.length c)) 0 (.int .i64 0)
    simp only [Array.setIfInBounds, List.size_toArray, List.length_cons, List.length_nil, Nat.zero_add, Nat.lt_add_one, dite_true, List.set_toArray, List.set_cons_zero] at k2 k3
    have hR2 := Kd.R_set (Kd.R_set HR.out B2.out (by decide) 0 (.slice A r.length c)) (blk_far (p := ⟨g2, 0, none⟩) B3.out (Ne.symm N23.out) (.slice A r.length c)) (by decide) 0 (.int .i64 0)
    have hB2 := (HB.out.setCell (p := ⟨g2, 0, none⟩) G2.out (.slice A r.length c)).setCell (p := ⟨g3, 0, none⟩) G3.out (.int .i64 0)
    clear c2 f2 c3 f3 HR B2 B3 HB
    generalize (wz.setCell ⟨g2, 0, none⟩ (.slice A r.length c)).setCell ⟨g3, 0, none⟩ (.int .i64 0) = wy at k2 k3 hR2 hB2 ⊢
    have c2 := blk_cell k2 0
    have c3 := blk_cell k3 0
    simp only [List.getElem?_toArray, List.getElem?_cons_zero, List.getElem?_cons_succ] at c2 c3
    refine doorB_ok 23 clMsgBytes_ok (fun _ _ _ => by simp [go_sem]) Try.f10 _ g2 g3 wy k3 _ (.tuple #[.slice A r.length c, .int .i64 0]) ?_ ⟨.inl ⟨r, _, rfl, rfl, hR2⟩, hB2⟩
    simp [results, Try.results10, asAddr, go_sem, c2, c3]
  · refine doorB_bad 23 clMsgBytes_bad (fun _ _ _ => by simp [go_sem]) Try.f10 rfl _ g2 g3 w.heap.size rfl rfl 0 (.slice none 0 0) w _ (HB.out.trans hb) (below_size (HB.out.trans hb)) G2.out G3.out (hke _ _ _ B2.out (by decide)) (hke _ _ _ B3.out (by decide)) _ ?_
    intro w' hb
    exact ⟨.inr ⟨rfl, rfl⟩, hb⟩

def wire_MsgBytes.f (k : Nat) (a0_0 : Int) (a0_1 : Int) (a0_2 : Int) (a0_3 : ByteArray) (a0_4 : Int) : Option (List Int × Int) :=
  match msgOffs a0_0 with
  | none => some ([], 220)
  | some os => if msgPlain os a0_1 a0_2 a0_3 a0_4 = true then (code_Num.f k (IntKind.u64.wrap a0_0)).bind fun t => (wireWr k (msgFlds os a0_0 a0_1 a0_2 a0_3 a0_4) t).bind fun x => some (outB x) else some ([], 220)
theorem wire_MsgBytes.mono : ∀ a0_0 a0_1 a0_2 a0_3 a0_4 k, LeO (wire_MsgBytes.f k a0_0 a0_1 a0_2 a0_3 a0_4) (wire_MsgBytes.f (k + 1) a0_0 a0_1 a0_2 a0_3 a0_4) := by
  intro a0_0 a0_1 a0_2 a0_3 a0_4 k
  unfold wire_MsgBytes.f
  cases msgOffs a0_0 with
  | none => exact LeO.refl _
  | some os => exact LeO.ite (LeO.bind (code_Num.mono _ k) (fun _ => LeO.bind (wireWr_mono _ _ k) (fun _ => LeO.refl _))) (LeO.refl _)
theorem wire_MsgBytes.calls (k : Nat) (a0_0 : Int) (a0_1 : Int) (a0_2 : Int) (a0_3 : ByteArray) (a0_4 : Int) (r1 : List Int) (r2 : Int) (w : World) (h : wire_MsgBytes.f k a0_0 a0_1 a0_2 a0_3 a0_4 = some (r1, r2)) :
    Calls Try.prog 10 #[.agg #[.int .i64 a0_0, .int .i64 a0_1, .int .i64 a0_2, .string a0_3, .int .i64 a0_4]] w fun e w' => ∃ v0_ : Value, e = .returned (.tuple #[v0_, .int .i64 r2]) ∧ Kd.R (Kd.int .u8) 5 w' w.heap.size (fun _ => True) v0_ r1 ∧ Below w.heap.size w w' := by
  unfold wire_MsgBytes.f at h
  obtain ⟨oo, ho⟩ : ∃ oo, msgOffs a0_0 = oo := ⟨_, rfl⟩
  rw [ho] at h
  cases oo with
  | none =>
    simp only [Option.some.injEq, Prod.mk.injEq] at h
    obtain ⟨rfl, rfl⟩ := h
    refine (wMsgBytes_not a0_0 a0_1 a0_2 a0_3 a0_4 w ho).mono ?_
    rintro e w' ⟨rfl, hb⟩
    exact ⟨_, rfl, Kd.R_nil _ _ _ _ _, hb⟩
  | some os =>
    obtain ⟨pl, hpl⟩ : ∃ pl, msgPlain os a0_1 a0_2 a0_3 a0_4 = pl := ⟨_, rfl⟩
    dsimp only at h
    rw [hpl] at h
    cases pl with
    | false =>
      rw [if_neg (by decide)] at h
      simp only [Option.some.injEq, Prod.mk.injEq] at h
      obtain ⟨rfl, rfl⟩ := h
      refine (wMsgBytes_odd os a0_0 a0_1 a0_2 a0_3 a0_4 w ho hpl).mono ?_
      rintro e w' ⟨rfl, hb⟩
      exact ⟨_, rfl, Kd.R_nil _ _ _ _ _, hb⟩
    | true =>
      rw [if_pos rfl] at h
      obtain ⟨t, ht, h⟩ := Option.bind_eq_some_iff.mp h
      obtain ⟨x, hx, h⟩ := Option.bind_eq_some_iff.mp h
      refine (wMsgBytes_some k os t x a0_0 a0_1 a0_2 a0_3 a0_4 w ho hpl ht hx).mono ?_
      rintro e w' ⟨⟨r, v, rfl, rfl, hR⟩ | ⟨rfl, rfl⟩, hb⟩
      · simp only [outB, Option.some.injEq, Prod.mk.injEq] at h
        obtain ⟨rfl, rfl⟩ := h
        exact ⟨_, rfl, hR, hb⟩
      · simp only [outB, Option.some.injEq, Prod.mk.injEq] at h
        obtain ⟨rfl, rfl⟩ := h
        exact ⟨_, rfl, Kd.R_nil _ _ _ _ _, hb⟩

/-! ### code_behind: function 53 -/
def code_behind.f (l0 : List Int) (a1 : Int) : Option (List Int) := (some (([] : List Int) : List Int)).bind fun y113 => (if 0 ≤ a1 then (if a1 ≤ (l0.length : Int) then (if y113.length + (l0.drop (a1 : Int).toNat).length < 140737488355328 then (some (y113 ++ (l0.drop (a1 : Int).toNat))) else (none)) else (none)) else (none))
set_option maxHeartbeats 8000000 in
set_option maxRecDepth 100000 in
theorem code_behind.calls (A0 : Option Addr) (c0 : Nat) (l0 : List Int) (a1 : Int) (r : List Int) (w : World) (hr0 : Kd.C (Kd.int .u8) w A0 l0.length l0) (hc0 : l0.length ≤ c0) (h : code_behind.f l0 a1 = some r) :
    Calls Try.prog 53 #[.slice A0 l0.length c0, .int .i64 a1] w fun e w' => ∃ v0_ : Value, e = .returned (v0_) ∧ Kd.R (Kd.int .u8) 5 w' w.heap.size (fun _ => True) v0_ r ∧ Below w.heap.size w w' := by
  have HR0 := Aside0.mk hr0
  have HC0 := Aside0.mk hc0
  clear hr0 hc0
  have HB := Aside0.mk (Below.refl w.heap.size w)
  have H : ((some (([] : List Int) : List Int)).bind fun y113 => (if 0 ≤ a1 then (if a1 ≤ (l0.length : Int) then (if y113.length + (l0.drop (a1 : Int).toNat).length < 140737488355328 then (some (y113 ++ (l0.drop (a1 : Int).toNat))) else (none)) else (none)) else (none))) = some r := h
  clear h
  obtain ⟨y113, hy113⟩ : ∃ y_ : List Int, y_ = (([] : List Int)) := ⟨_, rfl⟩
  replace H : (if 0 ≤ a1 then (if a1 ≤ (l0.length : Int) then (if y113.length + (l0.drop (a1 : Int).toNat).length < 140737488355328 then (some (y113 ++ (l0.drop (a1 : Int).toNat))) else (none)) else (none)) else (none)) = some r := by first | (rw [hy113]; with_reducible exact H) | (have H2_ := (Option.bind_some _ _).symm.trans H; rw [hy113]; with_reducible exact H2_) | (have H2_ := (Option.bind_some _ _).symm.trans H; with_reducible exact H2_) | with_reducible exact H | (rw [hy113]; exact H) | exact H
  have Ny113 := Aside0.mk hy113
  clear hy113
  by_cases c3 : 0 ≤ a1
  · rw [if_pos c3] at H
    have c3b0 := eq_true c3
    have c3b1 : decide (0 ≤ a1) = true := decide_eq_true c3
    clear c3
    by_cases c4 : a1 ≤ (l0.length : Int)
    · rw [if_pos c4] at H
      have c4b0 := eq_true c4
      have c4b1 : decide (a1 ≤ (l0.length : Int)) = true := decide_eq_true c4
      clear c4
      by_cases c5 : y113.length + (l0.drop (a1 : Int).toNat).length < 140737488355328
      · rw [if_pos c5] at H
        have LMc5 := Aside0.mk c5
        clear c5
        obtain ⟨y117, hy117⟩ : ∃ y_ : List Int, y_ = (y113 ++ (l0.drop (a1 : Int).toNat)) := ⟨_, rfl⟩
        replace H : (some y117) = some r := by first | (rw [hy117]; with_reducible exact H) | (have H2_ := (Option.bind_some _ _).symm.trans H; rw [hy117]; with_reducible exact H2_) | (have H2_ := (Option.bind_some _ _).symm.trans H; with_reducible exact H2_) | with_reducible exact H | (rw [hy117]; exact H) | exact H
        have Ny117 := Aside0.mk hy117
        clear hy117
        obtain rfl := Option.some.inj H
        go_enter Try.func53, Try.ntmps53
        go_wp2_with (first | ((with_reducible refine gate_dst (N := 5) rfl ?_); refine Kd.R_lit (Kd.int .u8) _ 5 ?hg (N := 5) ?hd (xs := ([] : List Int)) (inner := []) (ok := fun _ => True) (okp := fun _ => True) ?hr ?hp (fun _ hk => hk) trivial (Below.refl _ _) (Nat.le_refl _) (by simp) ?_; (case hd => rfl); (case hg => rfl); (case hr => first | (go_simp; done) | (go_simp; rfl)); (case hp => exact (Reps.none _ _)); intro v114 w6 ho7 hb hg_ hnew_; clear hg_ hnew_; (first | rw [← Ny113.out] at ho7 | (simp only [Int.reduceToNat] at ho7; rw [← Ny113.out] at ho7)); have n0_ := Aside0.mk (Kd.R_lower ho7 (below_size (by repeat (first | (with_reducible first | exact HB.out | apply below_alloc | apply pw_below_drewN | apply below_drew1) | exact HB.out)))); have n1_ := Aside0.mk (below_step (by repeat (first | (with_reducible first | exact HB.out | apply below_alloc | apply pw_below_drewN | apply below_drew1) | exact HB.out)) hb); clear HB; have HO115 := n0_; have HB := n1_; clear n0_ n1_; clear hb ho7; obtain ⟨i08, hi08, _, hsz8, _⟩ := info_parts info5; obtain ⟨A8, hcut8, hA8, hC8⟩ := print_drop_of (P := Try.prog) (Value.int .u8) 0 25 5 .i64 Try.underlying25 hi08 hsz8 A0 c0 l0 a1 (of_decide_eq_true (by first | (with_reducible assumption) | assumption)) (of_decide_eq_true (by first | (with_reducible assumption) | assumption)) HC0.out; have HR116 := Aside0.mk (Kd.C_of_reads (h1 := fun _ => rfl) (hA8 _ (Kd.reads_of_C HR0.out))); have HC116 := Aside0.mk hC8; clear hA8 hC8 hi08 hsz8; (try have HLHR116 := Aside0.mk (show ((l0.drop (a1 : Int).toNat).length : Int) = (l0.length : Int) - a1 from by have h1_ : a1 ≤ (l0.length : Int) := of_decide_eq_true (by first | (with_reducible assumption) | assumption); have h0_ : 0 ≤ a1 := of_decide_eq_true (by first | (with_reducible assumption) | assumption); rw [List.length_drop]; omega)); (try have HLHR116m := Aside0.mk (show ((l0.drop (a1 : Int).toNat).length : Int) = max ((l0.length : Int) - a1) 0 from by have h2_ := HLHR116.out; omega))) | ((with_reducible refine gate_builtin (b := .append) (xs := #[.tmp 5, .tmp 8]) rfl ?_); at_builtin; refine Kd.R_append_rows (Kd.int .u8) (w0 := w) w.heap.size rfl (.tmp 5) (.tmp 8) 25 5 (.int .u8 0) 1 rfl Try.underlying25 info5 rfl (by decide) (by omega) v114 y113 (l0.drop (a1 : Int).toNat) _ _ _ (fun _ => True) (fun _ => False) rfl rfl ?aO ?aR (fun _ _ h => h) (fun _ h => h.elim) ?aF ?aB ?aS ?aL ?_; (case aR => first | (rw [← show (l0.drop (a1 : Int).toNat).length = (l0.length - a1.toNat) from List.length_drop]; repeat (first | exact (Kd.C_below HR116.out HB.out) | (with_reducible refine Kd.C_alloc ?_ _) | (with_reducible refine Kd.C_drewN ?_ _) | (with_reducible refine Kd.C_drew ?_))) | (repeat (first | exact (Kd.C_below HR116.out HB.out) | (with_reducible refine Kd.C_alloc ?_ _) | (with_reducible refine Kd.C_drewN ?_ _) | (with_reducible refine Kd.C_drew ?_)))); (case aB => exact (by repeat (first | (with_reducible first | exact HB.out | apply below_alloc | apply pw_below_drewN | apply below_drew1) | exact HB.out))); (case aF => exact (fun _ _ => trivial)); (case aO => exact (by (with_reducible repeat (first | apply Kd.R_alloc | apply Kd.R_drewN | apply Kd.R_drew)); exact HO115.out)); (case aS => exact (below_size (by repeat (first | (with_reducible first | exact HB.out | apply below_alloc | apply pw_below_drewN | apply below_drew1) | exact HB.out)))); (case aL => have := LMc5.out; have hlx_ := (show (l0.drop (a1 : Int).toNat).length = (l0.length - a1.toNat) from List.length_drop); omega); intro v118 w9 ho hb hg hat; rw [← Ny117.out] at ho; have n0_ := Aside0.mk (hb); have n1_ := Aside0.mk (ho); clear HB; clear HO115; have HB := n0_; have HO119 := n1_; clear n0_ n1_; clear ho hb hg hat))
        go_ret
        exact ⟨_, by first | rfl | (simp [errW_none, errW_some] <;> rfl) | (simp [*, errW_none, errW_some] <;> rfl), by (with_reducible repeat (first | apply Kd.R_alloc | apply Kd.R_drewN | apply Kd.R_drew)); exact HO119.out, by repeat (first | (with_reducible first | exact HB.out | apply below_alloc | apply pw_below_drewN | apply below_drew1) | exact HB.out)⟩
      · rw [if_neg c5] at H
        exact absurd H (by simp)
    · rw [if_neg c4] at H
      exact absurd H (by simp)
  · rw [if_neg c3] at H
    exact absurd H (by simp)

/-! ### code_TakeNum: function 50 -/
mutual
def code_TakeNum.l0 : Nat → List Int → Int → List Int → Int → Int → Option (Int × List Int × Bool)
  | 0, _, _, _, _, _ => none
  | k + 1, x0, x5, x8, x9, x10 => if x10 < x9 then (if 0 ≤ x10 then (if x10 < (x8.length : Int) then (if x10 = 9 then (if (rd x8 x10) > 1 then (code_TakeNum.j1 k x0 x5 x10 (rd x8 x10) x8 x9 x10 true) else (code_TakeNum.j1 k x0 x5 x10 (rd x8 x10) x8 x9 x10 (decide (x10 > 9)))) else (code_TakeNum.j1 k x0 x5 x10 (rd x8 x10) x8 x9 x10 (decide (x10 > 9)))) else (none)) else (none)) else (some (0, ([] : List Int), false))
def code_TakeNum.j1 : Nat → List Int → Int → Int → Int → List Int → Int → Int → Bool → Option (Int × List Int × Bool)
  | 0, _, _, _, _, _, _, _, _ => none
  | k + 1, x0, x5, x6, x7, x8, x9, x10, x24 => if x24 = true then (some (0, ([] : List Int), false)) else (if 0 ≤ (IntKind.u64.wrap (7 * (IntKind.u64.wrap (x6)))) then (if x7 < 128 then (if x7 = 0 then (if x6 > 0 then (some (0, ([] : List Int), false)) else ((code_behind.f x0 (wrap64 (x6 + 1))).bind fun t121 => (some (Go.bits .or .u64 x5 (shl .u64 (IntKind.u64.wrap (Go.bits .and .u8 x7 127)) (IntKind.u64.wrap (7 * (IntKind.u64.wrap (x6))))), t121, true)))) else ((code_behind.f x0 (wrap64 (x6 + 1))).bind fun t124 => (some (Go.bits .or .u64 x5 (shl .u64 (IntKind.u64.wrap (Go.bits .and .u8 x7 127)) (IntKind.u64.wrap (7 * (IntKind.u64.wrap (x6))))), t124, true)))) else (code_TakeNum.l0 k x0 (Go.bits .or .u64 x5 (shl .u64 (IntKind.u64.wrap (Go.bits .and .u8 x7 127)) (IntKind.u64.wrap (7 * (IntKind.u64.wrap (x6)))))) x8 x9 (wrap64 (x10 + 1)))) else (none))
end
def code_TakeNum.f (k : Nat) (l0 : List Int) : Option (Int × List Int × Bool) := code_TakeNum.l0 k l0 0 l0 (l0.length : Int) 0
theorem code_TakeNum.mono_l : ∀ k, (∀ y0 y1 y2 y3 y4, LeO (code_TakeNum.l0 k y0 y1 y2 y3 y4) (code_TakeNum.l0 (k + 1) y0 y1 y2 y3 y4)) ∧ (∀ y0 y1 y2 y3 y4 y5 y6 y7, LeO (code_TakeNum.j1 k y0 y1 y2 y3 y4 y5 y6 y7) (code_TakeNum.j1 (k + 1) y0 y1 y2 y3 y4 y5 y6 y7))
  | 0 => ⟨fun _ _ _ _ _ r h => by simp [code_TakeNum.l0] at h, fun _ _ _ _ _ _ _ _ r h => by simp [code_TakeNum.j1] at h⟩
  | k + 1 => by
    obtain ⟨ih0, ih1⟩ := code_TakeNum.mono_l k
    refine ⟨?_, ?_⟩
    · intro y0 y1 y2 y3 y4
      unfold code_TakeNum.l0
      repeat' first
      | (with_reducible exact ih0 _ _ _ _ _)
      | (with_reducible exact ih1 _ _ _ _ _ _ _ _)
      | (with_reducible exact LeO.refl _)
      | (with_reducible exact LeO.none _)
      | (with_reducible refine LeO.ite ?_ ?_)
      | (with_reducible refine LeO.bind ?_ (fun _ => ?_))
      | exact ih0 _ _ _ _ _
      | exact ih1 _ _ _ _ _ _ _ _
      | exact LeO.none _
      | refine LeO.ite ?_ ?_
      | refine LeO.bind ?_ (fun _ => ?_)
    · intro y0 y1 y2 y3 y4 y5 y6 y7
      unfold code_TakeNum.j1
      repeat' first
      | (with_reducible exact ih0 _ _ _ _ _)
      | (with_reducible exact ih1 _ _ _ _ _ _ _ _)
      | (with_reducible exact LeO.refl _)
      | (with_reducible exact LeO.none _)
      | (with_reducible refine LeO.ite ?_ ?_)
      | (with_reducible refine LeO.bind ?_ (fun _ => ?_))
      | exact ih0 _ _ _ _ _
      | exact ih1 _ _ _ _ _ _ _ _
      | exact LeO.none _
      | refine LeO.ite ?_ ?_
      | refine LeO.bind ?_ (fun _ => ?_)
theorem code_TakeNum.mono : ∀ a0 k, LeO (code_TakeNum.f k a0) (code_TakeNum.f (k + 1) a0) := by
  intro a0 k
  obtain ⟨ih0, ih1⟩ := code_TakeNum.mono_l k
  unfold code_TakeNum.f
  repeat' first
      | (with_reducible exact ih0 _ _ _ _ _)
      | (with_reducible exact ih1 _ _ _ _ _ _ _ _)
      | (with_reducible exact LeO.refl _)
      | (with_reducible exact LeO.none _)
      | (with_reducible refine LeO.ite ?_ ?_)
      | (with_reducible refine LeO.bind ?_ (fun _ => ?_))
      | exact ih0 _ _ _ _ _
      | exact ih1 _ _ _ _ _ _ _ _
      | exact LeO.none _
      | refine LeO.ite ?_ ?_
      | refine LeO.bind ?_ (fun _ => ?_)
set_option maxHeartbeats 8000000 in
set_option maxRecDepth 100000 in
theorem code_TakeNum.calls (k : Nat) (A0 : Option Addr) (c0 : Nat) (l0 : List Int) (r1 : Int) (r2 : List Int) (r3 : Bool) (w : World) (hr0 : Kd.C (Kd.int .u8) w A0 l0.length l0) (hc0 : l0.length ≤ c0) (h : code_TakeNum.f k l0 = some (r1, r2, r3)) :
    Calls Try.prog 50 #[.slice A0 l0.length c0] w fun e w' => ∃ v1_ : Value, e = .returned (.tuple #[.int .u64 r1, v1_, .bool r3]) ∧ Kd.R (Kd.int .u8) 5 w' w.heap.size (fun _ => True) v1_ r2 ∧ Below w.heap.size w w' := by
  have HR0 := Aside0.mk hr0
  have HC0 := Aside0.mk hc0
  clear hr0 hc0
  have HB := Aside0.mk (Below.refl w.heap.size w)
  have H : (code_TakeNum.l0 k l0 0 l0 (l0.length : Int) 0) = some (r1, r2, r3) := h
  clear h
  have H' := Aside0.mk H
  clear H
  go_enter Try.func50, Try.ntmps50
  go_wp2
  go_loopg [5, 10] k (fun kq v5 v10 w' => ∃ (x5_1 : Int) (x10_1 : Int), v5 = .int .u64 x5_1 ∧ v10 = .int .i64 x10_1 ∧ Aside0 (code_TakeNum.l0 kq l0 x5_1 l0 (l0.length : Int) x10_1 = some (r1, r2, r3)) ∧ Aside0 (kq ≤ k) ∧ Aside0 (Below w.heap.size w w'))
  case atStart => exact ⟨(0), (0), (by first | rfl | (simp; done) | (simp [*]; done)), (by first | rfl | (simp; done) | (simp [*]; done)), H', ⟨Nat.le_refl _⟩, ⟨by repeat (first | (with_reducible first | exact HB.out | apply below_alloc | apply pw_below_drewN | apply below_drew1) | exact HB.out)⟩⟩
  case round =>
    clear H'
    obtain ⟨x5_1, x10_1, rfl, rfl, HA, HK1, HB⟩ := hrel
    cases gk with
    | zero => exact absurd HA.out (by simp [code_TakeNum.l0])
    | succ k1 =>
      have H := HA.out
      clear HA
      simp only [code_TakeNum.l0] at H
      by_cases c2 : x10_1 < (l0.length : Int)
      · rw [if_pos c2] at H
        have c2b0 : decide (x10_1 < (l0.length : Int)) = true := decide_eq_true c2
        clear c2
        by_cases c3 : 0 ≤ x10_1
        · rw [if_pos c3] at H
          have c3b0 : decide (0 ≤ x10_1) = true := decide_eq_true c3
          clear c3
          by_cases c4 : x10_1 < (l0.length : Int)
          · rw [if_pos c4] at H
            have c4b0 : decide (x10_1 < (l0.length : Int)) = true := decide_eq_true c4
            clear c4
            have HC5 := Aside0.mk H
            clear H
            have p120 : 0 ≤ (x10_1 : Int) := of_decide_eq_true (by first | (with_reducible assumption) | assumption)
            have q120 : x10_1 < (l0.length : Int) := of_decide_eq_true (by first | (with_reducible assumption) | assumption)
            obtain ⟨ad120, e120, hx120_0⟩ := Kd.at_int HR0.out x10_1 p120 q120
            cases e120
            replace hx120_0 := (HB.out.cell (World.block_lt_of_cell? w _ hx120_0)).trans hx120_0
            replace p120 := eq_true p120
            replace q120 := eq_true q120
            go_upto_region 5 with (fail)
            go_cut [24] (fun v24 wc => ∃ (kq : Nat) (x24_4 : Bool), v24 = .bool x24_4 ∧ Aside0 (code_TakeNum.j1 kq l0 x5_1 x10_1 (rd l0 x10_1) l0 (l0.length : Int) x10_1 x24_4 = some (r1, r2, r3)) ∧ Aside0 (kq ≤ k1) ∧ Aside0 (Below w.heap.size w wc))
            case first =>
              have H := HC5.out
              clear HC5
              by_cases c6 : x10_1 = 9
              · rw [if_pos c6] at H
                have c6b0 : (x10_1 == 9) = true := beq_iff_eq.mpr c6
                have c6b1 : (x10_1 != 9) = false := bne_eq_false_iff_eq.mpr c6
                clear c6
                (first | rw [c6b0] | (simp only [i64_w, i32_w]; rw [c6b0]) | skip)
                by_cases c7 : (rd l0 x10_1) > 1
                · rw [if_pos c7] at H
                  have c7b0 : decide (1 < (rd l0 x10_1)) = true := decide_eq_true c7
                  clear c7
                  have H' := Aside0.mk H
                  clear H
                  go_wp2
                  go_meet
                  case rel => exact ⟨_, (true), (by first | rfl | (simp; done) | (simp [*]; done)), H', ⟨by have := HK1.out; first | omega | exact Nat.le_refl _⟩, ⟨by repeat (first | (with_reducible first | exact HB.out | apply below_alloc | apply pw_below_drewN | apply below_drew1) | exact HB.out)⟩⟩
                · rw [if_neg c7] at H
                  have c7b0 : decide (1 < (rd l0 x10_1)) = false := decide_eq_false c7
                  clear c7
                  have H' := Aside0.mk H
                  clear H
                  go_wp2
                  go_meet
                  case rel => exact ⟨_, (decide (x10_1 > 9)), (by first | rfl | (simp; done) | (simp [*]; done)), H', ⟨by have := HK1.out; first | omega | exact Nat.le_refl _⟩, ⟨by repeat (first | (with_reducible first | exact HB.out | apply below_alloc | apply pw_below_drewN | apply below_drew1) | exact HB.out)⟩⟩
              · rw [if_neg c6] at H
                have c6b0 : (x10_1 == 9) = false := beq_eq_false_iff_ne.mpr c6
                have c6b1 : (x10_1 != 9) = true := bne_iff_ne.mpr c6
                (first | rw [c6b0] | (simp only [i64_w, i32_w]; rw [c6b0]) | skip)
                have H' := Aside0.mk H
                clear H
                go_wp2
                go_meet
                case rel => exact ⟨_, (decide (x10_1 > 9)), (by first | rfl | (simp; done) | (simp [*]; done)), H', ⟨by have := HK1.out; first | omega | exact Nat.le_refl _⟩, ⟨by repeat (first | (with_reducible first | exact HB.out | apply below_alloc | apply pw_below_drewN | apply below_drew1) | exact HB.out)⟩⟩
            case rest =>
              clear HC5
              try clear p1
              try clear q1
              try clear hx1
              try clear c2
              try clear c2b0
              try clear p2
              try clear c3
              try clear c3b0
              try clear c4
              try clear c4b0
              try clear c5
              try clear c6
              try clear c6b0
              try clear c6b1
              try clear c7
              try clear c7b0
              try clear hx120_0
              try clear p120
              try clear q120
              obtain ⟨kq, x24_4, rfl, HA, HJ4, HB⟩ := hcut
              cases kq with
              | zero => exact absurd HA.out (by simp [code_TakeNum.j1])
              | succ kj4 =>
                have H := HA.out
                clear HA
                simp only [code_TakeNum.j1] at H
                by_cases c8 : x24_4 = true
                · subst c8
                  have H1 : (some (0, ([] : List Int), false)) = some (r1, r2, r3) := by rw [if_pos rfl] at H; exact H
                  clear H
                  have H := H1
                  clear H1
                  simp only [Option.some.injEq, Prod.mk.injEq] at H
                  obtain ⟨rfl, rfl, rfl⟩ := H
                  go_wp2
                  go_ret3
                  exact ⟨_, by first | rfl | (simp [errW_none, errW_some] <;> rfl) | (simp [*, errW_none, errW_some] <;> rfl), by first | exact Kd.R_nil _ _ _ _ _ | exact Kd.N_nil _ _ _ _ _ | exact Kd.V_nil _ _ _ _ _ | exact Kd.Q_nil _ _ _ _ _ | exact Kd.S_nil _ _ _ _ _, by repeat (first | (with_reducible first | exact HB.out | apply below_alloc | apply pw_below_drewN | apply below_drew1) | exact HB.out)⟩
                · replace c8 := Bool.eq_false_iff.mpr c8
                  subst c8
                  have H1 : (if 0 ≤ (IntKind.u64.wrap (7 * (IntKind.u64.wrap (x10_1)))) then (if (rd l0 x10_1) < 128 then (if (rd l0 x10_1) = 0 then (if x10_1 > 0 then (some (0, ([] : List Int), false)) else ((code_behind.f l0 (wrap64 (x10_1 + 1))).bind fun t121 => (some (Go.bits .or .u64 x5_1 (shl .u64 (IntKind.u64.wrap (Go.bits .and .u8 (rd l0 x10_1) 127)) (IntKind.u64.wrap (7 * (IntKind.u64.wrap (x10_1))))), t121, true)))) else ((code_behind.f l0 (wrap64 (x10_1 + 1))).bind fun t124 => (some (Go.bits .or .u64 x5_1 (shl .u64 (IntKind.u64.wrap (Go.bits .and .u8 (rd l0 x10_1) 127)) (IntKind.u64.wrap (7 * (IntKind.u64.wrap (x10_1))))), t124, true)))) else (code_TakeNum.l0 kj4 l0 (Go.bits .or .u64 x5_1 (shl .u64 (IntKind.u64.wrap (Go.bits .and .u8 (rd l0 x10_1) 127)) (IntKind.u64.wrap (7 * (IntKind.u64.wrap (x10_1)))))) l0 (l0.length : Int) (wrap64 (x10_1 + 1)))) else (none)) = some (r1, r2, r3) := by rw [if_neg (show ¬ (false = true) by decide)] at H; exact H
                  clear H
                  have H := H1
                  clear H1
                  obtain ⟨ji9, hji9⟩ : ∃ j_ : Int, (IntKind.u64.wrap (7 * (IntKind.u64.wrap (x10_1)))) = j_ := ⟨_, rfl⟩
                  replace H : (if 0 ≤ (ji9) then (if (rd l0 x10_1) < 128 then (if (rd l0 x10_1) = 0 then (if x10_1 > 0 then (some (0, ([] : List Int), false)) else ((code_behind.f l0 (wrap64 (x10_1 + 1))).bind fun t121 => (some (Go.bits .or .u64 x5_1 (shl .u64 (IntKind.u64.wrap (Go.bits .and .u8 (rd l0 x10_1) 127)) (ji9)), t121, true)))) else ((code_behind.f l0 (wrap64 (x10_1 + 1))).bind fun t124 => (some (Go.bits .or .u64 x5_1 (shl .u64 (IntKind.u64.wrap (Go.bits .and .u8 (rd l0 x10_1) 127)) (ji9)), t124, true)))) else (code_TakeNum.l0 kj4 l0 (Go.bits .or .u64 x5_1 (shl .u64 (IntKind.u64.wrap (Go.bits .and .u8 (rd l0 x10_1) 127)) (ji9))) l0 (l0.length : Int) (wrap64 (x10_1 + 1)))) else (none)) = some (r1, r2, r3) := by first | (rw [hji9] at H; exact H) | (simp only [hji9] at H ⊢; exact H)
                  by_cases c10 : 0 ≤ (ji9)
                  · rw [if_pos c10] at H
                    have c10b0 := eq_true c10
                    have c10b1 : decide (0 ≤ (ji9)) = true := decide_eq_true c10
                    clear c10
                    obtain ⟨ji11, hji11⟩ : ∃ j_ : Int, (shl .u64 (IntKind.u64.wrap (Go.bits .and .u8 (rd l0 x10_1) 127)) (ji9)) = j_ := ⟨_, rfl⟩
                    replace H : (if (rd l0 x10_1) < 128 then (if (rd l0 x10_1) = 0 then (if x10_1 > 0 then (some (0, ([] : List Int), false)) else ((code_behind.f l0 (wrap64 (x10_1 + 1))).bind fun t121 => (some (Go.bits .or .u64 x5_1 (ji11), t121, true)))) else ((code_behind.f l0 (wrap64 (x10_1 + 1))).bind fun t124 => (some (Go.bits .or .u64 x5_1 (ji11), t124, true)))) else (code_TakeNum.l0 kj4 l0 (Go.bits .or .u64 x5_1 (ji11)) l0 (l0.length : Int) (wrap64 (x10_1 + 1)))) = some (r1, r2, r3) := by first | (rw [hji11] at H; exact H) | (simp only [hji11] at H ⊢; exact H)
                    have hji11_ : (IntKind.u64.wrap ((IntKind.u64.wrap (Go.bits .and .u8 (rd l0 x10_1) 127)) * 2 ^ min (ji9).toNat 64)) = ji11 := hji11
                    have hji11z : (ji9) ≤ 64 → (IntKind.u64.wrap ((IntKind.u64.wrap (Go.bits .and .u8 (rd l0 x10_1) 127)) * 2 ^ (ji9).toNat)) = ji11 := shl_small hji11
                    by_cases c12 : (rd l0 x10_1) < 128
                    · rw [if_pos c12] at H
                      have c12b0 : decide ((rd l0 x10_1) < 128) = true := decide_eq_true c12
                      clear c12
                      by_cases c13 : (rd l0 x10_1) = 0
                      · rw [if_pos c13] at H
                        have c13b0 : ((rd l0 x10_1) == 0) = true := beq_iff_eq.mpr c13
                        have c13b1 : ((rd l0 x10_1) != 0) = false := bne_eq_false_iff_eq.mpr c13
                        clear c13
                        by_cases c14 : x10_1 > 0
                        · rw [if_pos c14] at H
                          have c14b0 : decide (0 < x10_1) = true := decide_eq_true c14
                          clear c14
                          simp only [Option.some.injEq, Prod.mk.injEq] at H
                          obtain ⟨rfl, rfl, rfl⟩ := H
                          go_wp2
                          go_ret3
                          exact ⟨_, by first | rfl | (simp [errW_none, errW_some] <;> rfl) | (simp only [← hji9, ← hji11]; first | rfl | (simp [errW_none, errW_some] <;> rfl)) | (simp [*, errW_none, errW_some] <;> rfl), by first | exact Kd.R_nil _ _ _ _ _ | exact Kd.N_nil _ _ _ _ _ | exact Kd.V_nil _ _ _ _ _ | exact Kd.Q_nil _ _ _ _ _ | exact Kd.S_nil _ _ _ _ _, by repeat (first | (with_reducible first | exact HB.out | apply below_alloc | apply pw_below_drewN | apply below_drew1) | exact HB.out)⟩
                        · rw [if_neg c14] at H
                          have c14b0 : decide (0 < x10_1) = false := decide_eq_false c14
                          clear c14
                          replace H := Option.bind_eq_some_iff.mp H
                          obtain ⟨t121, A150, H⟩ := H
                          replace H : (some (Go.bits .or .u64 x5_1 (ji11), t121, true)) = some (r1, r2, r3) := H
                          have A15 := Aside0.mk A150
                          clear A150
                          simp only [Option.some.injEq, Prod.mk.injEq] at H
                          obtain ⟨rfl, rfl, rfl⟩ := H
                          go_wp2_with (first | ((with_reducible refine gate_callee (f := 53) rfl ?_); refine goesL_ (some 46) rfl rfl Try.func53 (by kernel_rfl) rfl #[.slice (some ad120) l0.length c0, .int .i64 (wrap64 (x10_1 + 1))] rfl (by (try simp only [List.map_toArray, List.map_cons, List.map_nil]); first | done | rfl | (simp only [List.length_drop, List.length_take]; rfl)) ?_; (with_reducible refine (code_behind.calls _ _ l0 (wrap64 (x10_1 + 1)) t121 _ ?side1 ?side2 A15.out).mono ?_); (case side1 => repeat (first | exact (Kd.C_below HR0.out HB.out) | (with_reducible refine Kd.C_alloc ?_ _) | (with_reducible refine Kd.C_drewN ?_ _) | (with_reducible refine Kd.C_drew ?_))); (case side2 => exact HC0.out); rintro e w16 ⟨v122, rfl, ho0, hb⟩; refine ⟨_, rfl, ?_⟩; have n0_ := Aside0.mk (Kd.R_lower ho0 (below_size (by repeat (first | (with_reducible first | exact HB.out | apply below_alloc | apply pw_below_drewN | apply below_drew1) | exact HB.out)))); have n1_ := Aside0.mk (below_step (by repeat (first | (with_reducible first | exact HB.out | apply below_alloc | apply pw_below_drewN | apply below_drew1) | exact HB.out)) hb); clear HB; have HO123 := n0_; have HB := n1_; clear n0_ n1_; (try clear hb); (try clear hb2); (try clear hk); (try clear hi); (try clear ho0)))
                          go_ret3
                          exact ⟨_, by first | rfl | (simp [errW_none, errW_some] <;> rfl) | (simp only [← hji9, ← hji11]; first | rfl | (simp [errW_none, errW_some] <;> rfl)) | (simp [*, errW_none, errW_some] <;> rfl), by (with_reducible repeat (first | apply Kd.R_alloc | apply Kd.R_drewN | apply Kd.R_drew)); exact HO123.out, by repeat (first | (with_reducible first | exact HB.out | apply below_alloc | apply pw_below_drewN | apply below_drew1) | exact HB.out)⟩
                      · rw [if_neg c13] at H
                        have c13b0 : ((rd l0 x10_1) == 0) = false := beq_eq_false_iff_ne.mpr c13
                        have c13b1 : ((rd l0 x10_1) != 0) = true := bne_iff_ne.mpr c13
                        replace H := Option.bind_eq_some_iff.mp H
                        obtain ⟨t124, A170, H⟩ := H
                        replace H : (some (Go.bits .or .u64 x5_1 (ji11), t124, true)) = some (r1, r2, r3) := H
                        have A17 := Aside0.mk A170
                        clear A170
                        simp only [Option.some.injEq, Prod.mk.injEq] at H
                        obtain ⟨rfl, rfl, rfl⟩ := H
                        go_wp2_with (first | ((with_reducible refine gate_callee (f := 53) rfl ?_); refine goesL_ (some 46) rfl rfl Try.func53 (by kernel_rfl) rfl #[.slice (some ad120) l0.length c0, .int .i64 (wrap64 (x10_1 + 1))] rfl (by (try simp only [List.map_toArray, List.map_cons, List.map_nil]); first | done | rfl | (simp only [List.length_drop, List.length_take]; rfl)) ?_; (with_reducible refine (code_behind.calls _ _ l0 (wrap64 (x10_1 + 1)) t124 _ ?side1 ?side2 A17.out).mono ?_); (case side1 => repeat (first | exact (Kd.C_below HR0.out HB.out) | (with_reducible refine Kd.C_alloc ?_ _) | (with_reducible refine Kd.C_drewN ?_ _) | (with_reducible refine Kd.C_drew ?_))); (case side2 => exact HC0.out); rintro e w18 ⟨v125, rfl, ho0, hb⟩; refine ⟨_, rfl, ?_⟩; have n0_ := Aside0.mk (Kd.R_lower ho0 (below_size (by repeat (first | (with_reducible first | exact HB.out | apply below_alloc | apply pw_below_drewN | apply below_drew1) | exact HB.out)))); have n1_ := Aside0.mk (below_step (by repeat (first | (with_reducible first | exact HB.out | apply below_alloc | apply pw_below_drewN | apply below_drew1) | exact HB.out)) hb); clear HB; have HO126 := n0_; have HB := n1_; clear n0_ n1_; (try clear hb); (try clear hb2); (try clear hk); (try clear hi); (try clear ho0)))
                        go_ret3
                        exact ⟨_, by first | rfl | (simp [errW_none, errW_some] <;> rfl) | (simp only [← hji9, ← hji11]; first | rfl | (simp [errW_none, errW_some] <;> rfl)) | (simp [*, errW_none, errW_some] <;> rfl), by (with_reducible repeat (first | apply Kd.R_alloc | apply Kd.R_drewN | apply Kd.R_drew)); exact HO126.out, by repeat (first | (with_reducible first | exact HB.out | apply below_alloc | apply pw_below_drewN | apply below_drew1) | exact HB.out)⟩
                    · rw [if_neg c12] at H
                      have c12b0 : decide ((rd l0 x10_1) < 128) = false := decide_eq_false c12
                      clear c12
                      have H' := Aside0.mk H
                      clear H
                      go_wp2
                      go_roundg kj4
                      case measure => have := HK1.out; have := HJ4.out; omega
                      case rel => exact ⟨(Go.bits .or .u64 x5_1 (ji11)), (wrap64 (x10_1 + 1)), (by first | rfl | (simp; done) | (simp only [← hji11] <;> (first | rfl | simp)) | (simp [*]; done)), (by first | rfl | (simp; done) | (simp [*]; done)), H', ⟨by have := HK1.out; have := HJ4.out; omega⟩, ⟨by repeat (first | (with_reducible first | exact HB.out | apply below_alloc | apply pw_below_drewN | apply below_drew1) | exact HB.out)⟩⟩
                  · rw [if_neg c10] at H
                    exact absurd H (by simp)
          · rw [if_neg c4] at H
            exact absurd H (by simp)
        · rw [if_neg c3] at H
          exact absurd H (by simp)
      · rw [if_neg c2] at H
        have c2b0 : decide (x10_1 < (l0.length : Int)) = false := decide_eq_false c2
        clear c2
        simp only [Option.some.injEq, Prod.mk.injEq] at H
        obtain ⟨rfl, rfl, rfl⟩ := H
        go_wp2
        go_ret3
        exact ⟨_, by first | rfl | (simp [errW_none, errW_some] <;> rfl) | (simp [*, errW_none, errW_some] <;> rfl), by first | exact Kd.R_nil _ _ _ _ _ | exact Kd.N_nil _ _ _ _ _ | exact Kd.V_nil _ _ _ _ _ | exact Kd.Q_nil _ _ _ _ _ | exact Kd.S_nil _ _ _ _ _, by repeat (first | (with_reducible first | exact HB.out | apply below_alloc | apply pw_below_drewN | apply below_drew1) | exact HB.out)⟩

-- NOT PRINTED: function 34 (wire_kind)

end Go.Proofs.Ytklnnmgfoebbhaa.PWireBack
