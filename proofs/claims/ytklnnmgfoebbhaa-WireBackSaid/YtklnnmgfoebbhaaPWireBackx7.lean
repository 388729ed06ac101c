-- Written by wip/xprint of this repo (our own program) out of the translation; what is marked BY HAND is ours. Not trusted: Lean checks it.
import Derived.Test.YtklnnmgfoebbhaaPWireBackx0
import Derived.Test.YtklnnmgfoebbhaaPWireBackx4
import Derived.Test.YtklnnmgfoebbhaaPWireBackx5
import Derived.Test.YtklnnmgfoebbhaaPWireBackx6
namespace Go.Proofs.Ytklnnmgfoebbhaa.PWireBack
open Go.RowKit Go.Proofs.YtklnnmgfoebbhaaW.PrintWords Go.Proofs.YtklnnmgfoebbhaaW.PrintLast Go.Proofs.YtklnnmgfoebbhaaW.PrintMore
attribute [local go_sem] max2_int min2_int max_two min_two max_three min_three max_four min_four   -- for this text's walks alone
set_option linter.unusedVariables false
set_option linter.unusedSimpArgs false

/-! ### wire_ReadMsg: function 12 -/
-- BY HAND

theorem clMessage_bad (g g2 : Nat) (x : Int) (u : FrameMode) (z0 z1 z2 z3 z4 : Value) (w : World) (hx : x ≠ 0) (hc : w.heap[g]? = some (.cells #[.int .i64 x] 28 (0, 0))) (hc2 : w.heap[g2]? = some (.cells #[z0, z1, z2, z3, z4] 24 (0, 0))) :
    CallsD Try.prog 33 #[.pointer (some ⟨g, 0, none⟩), .pointer (some ⟨g2, 0, none⟩)] u w fun e u' w' =>
      u' = u ∧ (e = .returned (.tuple #[]) ∧ w' = (((((w.setCell ⟨g2, 0, none⟩ (Value.int .i64 0)).setCell ⟨g2, 1, none⟩ (Value.int .i64 0)).setCell ⟨g2, 2, none⟩ (Value.int .i64 0)).setCell ⟨g2, 3, none⟩ (Value.string ⟨#[]⟩)).setCell ⟨g2, 4, none⟩ (Value.int .i64 0))) := by
  have h1 := blk_cell hc 0
  simp only [List.getElem?_toArray, List.getElem?_cons_zero] at h1
  have k0 := blk_cell hc2 0; have f0 := blk_frozen hc2 0; simp only [List.getElem?_toArray, List.getElem?_cons_zero, List.getElem?_cons_succ] at k0; have k1 := blk_cell hc2 1; have f1 := blk_frozen hc2 1; simp only [List.getElem?_toArray, List.getElem?_cons_zero, List.getElem?_cons_succ] at k1; have k2 := blk_cell hc2 2; have f2 := blk_frozen hc2 2; simp only [List.getElem?_toArray, List.getElem?_cons_zero, List.getElem?_cons_succ] at k2; have k3 := blk_cell hc2 3; have f3 := blk_frozen hc2 3; simp only [List.getElem?_toArray, List.getElem?_cons_zero, List.getElem?_cons_succ] at k3; have k4 := blk_cell hc2 4; have f4 := blk_frozen hc2 4; simp only [List.getElem?_toArray, List.getElem?_cons_zero, List.getElem?_cons_succ] at k4
  have hx1 : (x != 0) = true := by simpa using hx
  have hx2 : (x == 0) = false := by simpa using hx
  go_enter_d Try.func33, Try.ntmps33
  go_wp2
  go_end0
  exact ⟨rfl, rfl⟩
theorem clMessage_ok (g : Nat) (p : Addr) (u : FrameMode) (w : World) (hc : w.heap[g]? = some (.cells #[.int .i64 0] 28 (0, 0))) :
    CallsD Try.prog 33 #[.pointer (some ⟨g, 0, none⟩), .pointer (some p)] u w fun e u' w' =>
      u' = u ∧ (e = .returned (.tuple #[]) ∧ w' = w) := by
  have h1 := blk_cell hc 0
  simp only [List.getElem?_toArray, List.getElem?_cons_zero] at h1
  go_enter_d Try.func33, Try.ntmps33
  go_wp2
  go_end0
  exact ⟨rfl, rfl⟩

set_option maxHeartbeats 2000000 in
theorem doorMessage_bad (tmps : Array Value) (g2 g3 B : Nat) (h2 : tmps.getD 2 undef = .pointer (some ⟨g2, 0, none⟩)) (h3 : tmps.getD 3 undef = .pointer (some ⟨g3, 0, none⟩)) (x : Int) (z0 z1 z2 z3 z4 : Value) (w0 W : World)
    (hB : Below B w0 W) (hb : B ≤ W.heap.size) (hb2 : B ≤ g2) (hb3 : B ≤ g3) (H2 : W.heap[g2]? = some (.cells #[z0, z1, z2, z3, z4] 24 (0, 0))) (H3 : W.heap[g3]? = some (.cells #[.int .i64 x] 28 (0, 0))) (R : Ending → World → Prop)
    (hR : ∀ w', Below B w0 w' → R (.returned (.tuple #[.agg #[.int .i64 0, .int .i64 0, .int .i64 0, .string ⟨#[]⟩, .int .i64 0], .int .i64 220])) w') :
    Leaves Try.prog Try.f12 tmps R (dfs 33 g2 g3) (.panicking wbad) W := by
  have hne := blk_ne H2 H3 (by decide)
  refine leaves_cons (f := 24) (args := #[.pointer (some ⟨g3, 0, none⟩)]) (by simp) (by simp [go_sem]) ?_
  refine (caught_bad g3 x W H3).mono ?_
  rintro e u' w' ⟨rfl, rfl, o, rfl⟩
  have K3 := blk_set (blk_alloc H3 o) 0 (.int .i64 220)
  have K2 := blk_far (p := ⟨g3, 0, none⟩) (blk_alloc H2 o) hne (.int .i64 220)
  have hB1 : Below B w0 ((W.alloc o).setCell ⟨g3, 0, none⟩ (.int .i64 220)) := (hB.alloc hb o).setCell (p := ⟨g3, 0, none⟩) hb3 _
  simp only [Array.setIfInBounds, List.size_toArray, List.length_cons, List.length_nil, Nat.zero_add, Nat.lt_add_one, dite_true, List.set_toArray, List.set_cons_zero] at K3
  generalize (W.alloc o).setCell ⟨g3, 0, none⟩ (.int .i64 220) = W1 at K2 K3 hB1 ⊢
  refine leaves_cons (f := 33) (args := #[.pointer (some ⟨g3, 0, none⟩), .pointer (some ⟨g2, 0, none⟩)]) (by simp [settle]) (by simp [go_sem]) ?_
  refine (clMessage_bad g3 g2 220 _ z0 z1 z2 z3 z4 W1 (by decide) K3 K2).mono ?_
  rintro e u' w' ⟨rfl, rfl, rfl⟩
  have L2 := K2
  have L3 := K3
  have hB2 := hB1
  have L2 := blk_set L2 0 (.int .i64 0)
  have L3 := blk_far (p := ⟨g2, 0, none⟩) L3 (Ne.symm hne) (.int .i64 0)
  have hB2 := hB2.setCell (p := ⟨g2, 0, none⟩) hb2 (.int .i64 0)
  have L2 := blk_set L2 1 (.int .i64 0)
  have L3 := blk_far (p := ⟨g2, 1, none⟩) L3 (Ne.symm hne) (.int .i64 0)
  have hB2 := hB2.setCell (p := ⟨g2, 1, none⟩) hb2 (.int .i64 0)
  have L2 := blk_set L2 2 (.int .i64 0)
  have L3 := blk_far (p := ⟨g2, 2, none⟩) L3 (Ne.symm hne) (.int .i64 0)
  have hB2 := hB2.setCell (p := ⟨g2, 2, none⟩) hb2 (.int .i64 0)
  have L2 := blk_set L2 3 (.string ⟨#[]⟩)
  have L3 := blk_far (p := ⟨g2, 3, none⟩) L3 (Ne.symm hne) (.string ⟨#[]⟩)
  have hB2 := hB2.setCell (p := ⟨g2, 3, none⟩) hb2 (.string ⟨#[]⟩)
  have L2 := blk_set L2 4 (.int .i64 0)
  have L3 := blk_far (p := ⟨g2, 4, none⟩) L3 (Ne.symm hne) (.int .i64 0)
  have hB2 := hB2.setCell (p := ⟨g2, 4, none⟩) hb2 (.int .i64 0)
  refine ⟨.tuple #[.agg #[.int .i64 0, .int .i64 0, .int .i64 0, .string ⟨#[]⟩, .int .i64 0], .int .i64 220], ?_, hR _ hB2⟩
  have M2 : (((((W1.setCell ⟨g2, 0, none⟩ (.int .i64 0)).setCell ⟨g2, 1, none⟩ (.int .i64 0)).setCell ⟨g2, 2, none⟩ (.int .i64 0)).setCell ⟨g2, 3, none⟩ (.string ⟨#[]⟩)).setCell ⟨g2, 4, none⟩ (.int .i64 0)).heap[g2]? = some (.cells #[.int .i64 0, .int .i64 0, .int .i64 0, .string ⟨#[]⟩, .int .i64 0] 24 (0, 0)) := L2
  generalize (((((W1.setCell ⟨g2, 0, none⟩ (.int .i64 0)).setCell ⟨g2, 1, none⟩ (.int .i64 0)).setCell ⟨g2, 2, none⟩ (.int .i64 0)).setCell ⟨g2, 3, none⟩ (.string ⟨#[]⟩)).setCell ⟨g2, 4, none⟩ (.int .i64 0)) = W2 at M2 L3
  exact results_sc rfl tmps W2 ⟨g2, 0, none⟩ h2 _ (run_loadVar_row W2 g2 _ 24 #[.int .i64 0, .int .i64 0, .int .i64 0, .string ⟨#[]⟩, .int .i64 0] (0, 0) _ M2 Try.underlying24 rfl (by kernel_rfl)) ⟨g3, 0, none⟩ h3 (.int .i64 220) (load_errno L3)

def msgVals (kd : Int) (os : List Nat) (vs : List (Int ⊕ ByteArray)) : Array Value := #[.int .i64 kd, .int .i64 (getN os vs 1), .int .i64 (getN os vs 2), .string (getS os vs 3), .int .i64 (getN os vs 4)]
theorem put_msg (kd kd' : Int) (os : List Nat) (vs : List (Int ⊕ ByteArray)) (ho : msgOffs kd' = some os) (hk : vs.map isTx = os.map (· == 3)) : (List.zip os (vs.map fval)).foldl (fun c x => c.setIfInBounds x.1 x.2) #[.int .i64 kd, .int .i64 0, .int .i64 0, .string ⟨#[]⟩, .int .i64 0] = msgVals kd os vs := by
  rcases msgOffs_cases ho with hs | hs
  · subst hs
    obtain ⟨v0, v1, v2, v3, rfl⟩ := len4 (by simpa using congrArg List.length hk)
    simp at hk
    obtain ⟨h0, h1, h2, h3⟩ := hk
    obtain ⟨x0, rfl⟩ : ∃ n, v0 = .inl n := by have q := kinds_cons h0; rw [if_neg (by decide)] at q; exact q
    obtain ⟨x1, rfl⟩ : ∃ n, v1 = .inl n := by have q := kinds_cons h1; rw [if_neg (by decide)] at q; exact q
    obtain ⟨x2, rfl⟩ : ∃ s, v2 = .inr s := by have q := kinds_cons h2; rw [if_pos rfl] at q; exact q
    obtain ⟨x3, rfl⟩ : ∃ n, v3 = .inl n := by have q := kinds_cons h3; rw [if_neg (by decide)] at q; exact q
    rfl
  · subst hs
    obtain ⟨v0, v1, rfl⟩ := len2 (by simpa using congrArg List.length hk)
    simp at hk
    obtain ⟨h0, h1⟩ := hk
    obtain ⟨x0, rfl⟩ : ∃ n, v0 = .inl n := by have q := kinds_cons h0; rw [if_neg (by decide)] at q; exact q
    obtain ⟨x1, rfl⟩ : ∃ n, v1 = .inl n := by have q := kinds_cons h1; rw [if_neg (by decide)] at q; exact q
    rfl


set_option maxHeartbeats 8000000 in
set_option maxRecDepth 100000 in
theorem wReadMsg_bad (k : Nat) (A0 : Option Addr) (c0 : Nat) (l0 : List Int) (w : World) (hr0 : Kd.C (Kd.int .u8) w A0 l0.length l0) (hc0 : l0.length ≤ c0) (r1 : Int) (r2 : List Int) (r3 : Bool) (ht : code_TakeNum.f k l0 = some (r1, r2, r3)) (hle : ¬ (r3 = true ∧ r1 ≤ 1000)) :
    Calls Try.prog 12 #[.slice A0 l0.length c0] w fun e w' => e = .returned (.tuple #[.agg #[.int .i64 0, .int .i64 0, .int .i64 0, .string ⟨#[]⟩, .int .i64 0], .int .i64 220]) ∧ Below w.heap.size w w' := by
  have HB := Aside0.mk (Below.refl w.heap.size w)
  have HC0 := Aside0.mk hr0
  have HCL0 := Aside0.mk hc0
  clear hr0 hc0
  have hmf : ∀ (fn : Fn) (first cap : Array Value) (w : World), (Instr.makeFunc fn first cap).run Try.prog w = .ok (.func fn first cap) w := fun _ _ _ _ => rfl
  go_enter_defers Try.func12, Try.ntmps12
  go_wp2_with (first | ((with_reducible refine gate_dst (N := 2) rfl ?_); (try (refine gate_guard (by rfl) ?_; dsimp only)); refine box_event ?hg (N := 2) ?hd (cs := #[.int .i64 0, .int .i64 0, .int .i64 0, .string ⟨#[]⟩, .int .i64 0]) (t := 24) ?hr ?_; (case hd => rfl); (case hg => rfl); (case hr => first | (go_simp; done) | (go_simp; rfl)); intro g2 hg w1 hbox hb; have m0 := Aside0.mk (below_step (by repeat (first | (with_reducible first | exact HB.out | apply below_alloc | apply pw_below_drewN | apply below_drew1) | exact HB.out)) hb); have m1 := Aside0.mk hbox; have m2 := Aside0.mk ((by rw [hg]; exact (below_size (by repeat (first | (with_reducible first | exact HB.out | apply below_alloc | apply pw_below_drewN | apply below_drew1) | exact HB.out))) : w.heap.size ≤ g2)); clear HB ; have HB := m0; have B2 := m1; have G2 := m2; clear m0 m1 m2; clear hb hbox hg) | ((with_reducible refine gate_dst (N := 3) rfl ?_); (try (refine gate_guard (by rfl) ?_; dsimp only)); refine box_event ?hg (N := 3) ?hd (cs := #[.int .i64 0]) (t := 28) ?hr ?_; (case hd => rfl); (case hg => rfl); (case hr => first | (go_simp; done) | (go_simp; rfl)); intro g3 hg w2 hbox hb; have m0 := Aside0.mk (below_step (by repeat (first | (with_reducible first | exact HB.out | apply below_alloc | apply pw_below_drewN | apply below_drew1) | exact HB.out)) hb); have m1 := Aside0.mk hbox; have m2 := Aside0.mk ((by rw [hg]; exact (below_size (by repeat (first | (with_reducible first | exact HB.out | apply below_alloc | apply pw_below_drewN | apply below_drew1) | exact HB.out))) : w.heap.size ≤ g3)); have m3 := Aside0.mk (blk_below (g := g2) (o := (.cells #[.int .i64 0, .int .i64 0, .int .i64 0, .string ⟨#[]⟩, .int .i64 0] 24 (0, 0))) (by (with_reducible repeat (first | refine blk_drewN ?_ _ | refine blk_drew ?_ | refine blk_alloc ?_ _)); exact B2.out) hb); have m4 := Aside0.mk ((by rw [hg]; exact (blk_lt (g := g2) (o := (.cells #[.int .i64 0, .int .i64 0, .int .i64 0, .string ⟨#[]⟩, .int .i64 0] 24 (0, 0))) (by (with_reducible repeat (first | refine blk_drewN ?_ _ | refine blk_drew ?_ | refine blk_alloc ?_ _)); exact B2.out))) : g2 < g3); clear HB B2; have HB := m0; have B3 := m1; have G3 := m2; have B2 := m3; have Ng2g3 := m4; clear m0 m1 m2 m3 m4; clear hb hbox hg))
  refine (wkind_bad k A0 c0 l0 r1 r2 r3 _ (Kd.C_below HC0.out HB.out) HCL0.out ht hle).mono ?_
  rintro e w4 ⟨rfl, hb⟩
  have m0 := Aside0.mk (below_step (by repeat (first | (with_reducible first | exact HB.out | apply below_alloc | apply pw_below_drewN | apply below_drew1) | exact HB.out)) hb)
  have m1 := Aside0.mk (blk_below (g := g2) (o := (.cells #[.int .i64 0, .int .i64 0, .int .i64 0, .string ⟨#[]⟩, .int .i64 0] 24 (0, 0))) (by (with_reducible repeat (first | refine blk_drewN ?_ _ | refine blk_drew ?_ | refine blk_alloc ?_ _)); exact B2.out) hb)
  have m2 := Aside0.mk (blk_below (g := g3) (o := (.cells #[.int .i64 0] 28 (0, 0))) (by (with_reducible repeat (first | refine blk_drewN ?_ _ | refine blk_drew ?_ | refine blk_alloc ?_ _)); exact B3.out) hb)
  clear HB B2 B3
  have HB := m0
  have B2 := m1
  have B3 := m2
  clear m0 m1 m2
  refine doorMessage_bad _ g2 g3 w.heap.size rfl rfl 0 _ _ _ _ _ w _ HB.out (below_size HB.out) G2.out G3.out B2.out B3.out _ ?_
  intro w' hb
  exact ⟨rfl, hb⟩

set_option maxHeartbeats 8000000 in
set_option maxRecDepth 100000 in
theorem wReadMsg_not (k : Nat) (A0 : Option Addr) (c0 : Nat) (l0 : List Int) (w : World) (hr0 : Kd.C (Kd.int .u8) w A0 l0.length l0) (hc0 : l0.length ≤ c0) (r1 : Int) (r2 : List Int) (kd : Int) (ht : code_TakeNum.f k l0 = some (r1, r2, true)) (hle : r1 ≤ 1000) (hkd : wrap64 r1 = kd) (ho : msgOffs kd = none) :
    Calls Try.prog 12 #[.slice A0 l0.length c0] w fun e w' => e = .returned (.tuple #[.agg #[.int .i64 0, .int .i64 0, .int .i64 0, .string ⟨#[]⟩, .int .i64 0], .int .i64 220]) ∧ Below w.heap.size w w' := by
  have HB := Aside0.mk (Below.refl w.heap.size w)
  have HC0 := Aside0.mk hr0
  have HCL0 := Aside0.mk hc0
  clear hr0 hc0
  have HKD := Aside0.mk hkd
  clear hkd
  have hmf : ∀ (fn : Fn) (first cap : Array Value) (w : World), (Instr.makeFunc fn first cap).run Try.prog w = .ok (.func fn first cap) w := fun _ _ _ _ => rfl
  go_enter_defers Try.func12, Try.ntmps12
  go_wp2_with (first | ((with_reducible refine gate_dst (N := 2) rfl ?_); (try (refine gate_guard (by rfl) ?_; dsimp only)); refine box_event ?hg (N := 2) ?hd (cs := #[.int .i64 0, .int .i64 0, .int .i64 0, .string ⟨#[]⟩, .int .i64 0]) (t := 24) ?hr ?_; (case hd => rfl); (case hg => rfl); (case hr => first | (go_simp; done) | (go_simp; rfl)); intro g2 hg w1 hbox hb; have m0 := Aside0.mk (below_step (by repeat (first | (with_reducible first | exact HB.out | apply below_alloc | apply pw_below_drewN | apply below_drew1) | exact HB.out)) hb); have m1 := Aside0.mk hbox; have m2 := Aside0.mk ((by rw [hg]; exact (below_size (by repeat (first | (with_reducible first | exact HB.out | apply below_alloc | apply pw_below_drewN | apply below_drew1) | exact HB.out))) : w.heap.size ≤ g2)); clear HB ; have HB := m0; have B2 := m1; have G2 := m2; clear m0 m1 m2; clear hb hbox hg) | ((with_reducible refine gate_dst (N := 3) rfl ?_); (try (refine gate_guard (by rfl) ?_; dsimp only)); refine box_event ?hg (N := 3) ?hd (cs := #[.int .i64 0]) (t := 28) ?hr ?_; (case hd => rfl); (case hg => rfl); (case hr => first | (go_simp; done) | (go_simp; rfl)); intro g3 hg w2 hbox hb; have m0 := Aside0.mk (below_step (by repeat (first | (with_reducible first | exact HB.out | apply below_alloc | apply pw_below_drewN | apply below_drew1) | exact HB.out)) hb); have m1 := Aside0.mk hbox; have m2 := Aside0.mk ((by rw [hg]; exact (below_size (by repeat (first | (with_reducible first | exact HB.out | apply below_alloc | apply pw_below_drewN | apply below_drew1) | exact HB.out))) : w.heap.size ≤ g3)); have m3 := Aside0.mk (blk_below (g := g2) (o := (.cells #[.int .i64 0, .int .i64 0, .int .i64 0, .string ⟨#[]⟩, .int .i64 0] 24 (0, 0))) (by (with_reducible repeat (first | refine blk_drewN ?_ _ | refine blk_drew ?_ | refine blk_alloc ?_ _)); exact B2.out) hb); have m4 := Aside0.mk ((by rw [hg]; exact (blk_lt (g := g2) (o := (.cells #[.int .i64 0, .int .i64 0, .int .i64 0, .string ⟨#[]⟩, .int .i64 0] 24 (0, 0))) (by (with_reducible repeat (first | refine blk_drewN ?_ _ | refine blk_drew ?_ | refine blk_alloc ?_ _)); exact B2.out))) : g2 < g3); clear HB B2; have HB := m0; have B3 := m1; have G3 := m2; have B2 := m3; have Ng2g3 := m4; clear m0 m1 m2 m3 m4; clear hb hbox hg))
  refine (wkind_ok k A0 c0 l0 r1 r2 _ (Kd.C_below HC0.out HB.out) HCL0.out ht hle).mono ?_
  rintro e w4 ⟨A, c, rfl, hR, hcl, hC, hb⟩
  have HNE := Aside0.mk (row_ne hR g2 (blk_lt B2.out))
  have HCL := Aside0.mk hcl
  have HC := Aside0.mk hC
  clear hR hcl hC HC0 HCL0 ht hle
  rw [HKD.out]
  have m0 := Aside0.mk (below_step (by repeat (first | (with_reducible first | exact HB.out | apply below_alloc | apply pw_below_drewN | apply below_drew1) | exact HB.out)) hb)
  have m1 := Aside0.mk (blk_below (g := g2) (o := (.cells #[.int .i64 0, .int .i64 0, .int .i64 0, .string ⟨#[]⟩, .int .i64 0] 24 (0, 0))) (by (with_reducible repeat (first | refine blk_drewN ?_ _ | refine blk_drew ?_ | refine blk_alloc ?_ _)); exact B2.out) hb)
  have m2 := Aside0.mk (blk_below (g := g3) (o := (.cells #[.int .i64 0] 28 (0, 0))) (by (with_reducible repeat (first | refine blk_drewN ?_ _ | refine blk_drew ?_ | refine blk_alloc ?_ _)); exact B3.out) hb)
  clear HB B2 B3
  have HB := m0
  have B2 := m1
  have B3 := m2
  clear m0 m1 m2
  have hcB20 := blk_cell B2.out 0
  simp only [List.getElem?_toArray, List.getElem?_cons_zero, List.getElem?_cons_succ] at hcB20
  have hfB20 := blk_frozen B2.out 0
  go_wp2_with (fail)
  have m2 := blk_put (cs' := #[.int .i64 kd, .int .i64 0, .int .i64 0, .string ⟨#[]⟩, .int .i64 0]) B2.out 0 (.int .i64 kd) rfl
  have m3 := blk_far (p := ⟨g2, 0, none⟩) B3.out (Ne.symm (Nat.ne_of_lt Ng2g3.out)) (.int .i64 kd)
  have m0 := Below.setCell (p := ⟨g2, 0, none⟩) HB.out G2.out (.int .i64 kd)
  have mC := Kd.C_keep 0 HC.out ((KeepBut.refl _ g2 none).set_ 0 (.int .i64 kd)) (fun ad e _ => HNE.out ad e)
  clear HB B2 B3 HC hcB20 hfB20
  generalize w4.setCell ⟨g2, 0, none⟩ (.int .i64 kd) = w5 at m0 m2 m3 mC ⊢
  have hcell : w5.cell? ⟨g2, 0, none⟩ = some (.int .i64 kd) := by
    have q := blk_cell m2 0
    simpa using q
  have hnn := fun (w : World) => run_neq_slice_nil_any (P := Try.prog) w 52 20 none 0 0 0 0 Try.underlying52
  refine (wpa_not kd ho g2 w5 hcell).mono ?_
  rintro e w6 ⟨rfl, rfl⟩
  clear hcell
  go_wp2_with (first | ((go_at_call 27); (with_reducible refine (must_bad _).mono ?_); rintro e wm ⟨rfl, rfl⟩))
  refine doorMessage_bad _ g2 g3 w.heap.size rfl rfl 0 _ _ _ _ _ w _ m0 (below_size m0) G2.out G3.out m2 m3 _ ?_
  intro w' hb
  exact ⟨rfl, hb⟩

set_option maxHeartbeats 8000000 in
set_option maxRecDepth 100000 in
theorem wReadMsg_some (k : Nat) (A0 : Option Addr) (c0 : Nat) (l0 : List Int) (w : World) (hr0 : Kd.C (Kd.int .u8) w A0 l0.length l0) (hc0 : l0.length ≤ c0) (r1 : Int) (r2 : List Int) (kd : Int) (ht : code_TakeNum.f k l0 = some (r1, r2, true)) (hle : r1 ≤ 1000) (hkd : wrap64 r1 = kd) (os : List Nat) (ho : msgOffs kd = some os) (RES : Option (List (Int ⊕ ByteArray))) (hrd : wireRd k (os.map (· == 3)) r2 [] = some RES) :
    Calls Try.prog 12 #[.slice A0 l0.length c0] w fun e w' => ((∃ vs, RES = some vs ∧ e = .returned (.tuple #[.agg (msgVals kd os vs), .int .i64 0])) ∨ (RES = none ∧ e = .returned (.tuple #[.agg #[.int .i64 0, .int .i64 0, .int .i64 0, .string ⟨#[]⟩, .int .i64 0], .int .i64 220]))) ∧ Below w.heap.size w w' := by
  have HB := Aside0.mk (Below.refl w.heap.size w)
  have HC0 := Aside0.mk hr0
  have HCL0 := Aside0.mk hc0
  clear hr0 hc0
  have HKD := Aside0.mk hkd
  have HRD := Aside0.mk hrd
  have HOS := Aside0.mk ho
  clear hkd hrd ho
  have hmf : ∀ (fn : Fn) (first cap : Array Value) (w : World), (Instr.makeFunc fn first cap).run Try.prog w = .ok (.func fn first cap) w := fun _ _ _ _ => rfl
  go_enter_defers Try.func12, Try.ntmps12
  go_wp2_with (first | ((with_reducible refine gate_dst (N := 2) rfl ?_); (try (refine gate_guard (by rfl) ?_; dsimp only)); refine box_event ?hg (N := 2) ?hd (cs := #[.int .i64 0, .int .i64 0, .int .i64 0, .string ⟨#[]⟩, .int .i64 0]) (t := 24) ?hr ?_; (case hd => rfl); (case hg => rfl); (case hr => first | (go_simp; done) | (go_simp; rfl)); intro g2 hg w1 hbox hb; have m0 := Aside0.mk (below_step (by repeat (first | (with_reducible first | exact HB.out | apply below_alloc | apply pw_below_drewN | apply below_drew1) | exact HB.out)) hb); have m1 := Aside0.mk hbox; have m2 := Aside0.mk ((by rw [hg]; exact (below_size (by repeat (first | (with_reducible first | exact HB.out | apply below_alloc | apply pw_below_drewN | apply below_drew1) | exact HB.out))) : w.heap.size ≤ g2)); clear HB ; have HB := m0; have B2 := m1; have G2 := m2; clear m0 m1 m2; clear hb hbox hg) | ((with_reducible refine gate_dst (N := 3) rfl ?_); (try (refine gate_guard (by rfl) ?_; dsimp only)); refine box_event ?hg (N := 3) ?hd (cs := #[.int .i64 0]) (t := 28) ?hr ?_; (case hd => rfl); (case hg => rfl); (case hr => first | (go_simp; done) | (go_simp; rfl)); intro g3 hg w2 hbox hb; have m0 := Aside0.mk (below_step (by repeat (first | (with_reducible first | exact HB.out | apply below_alloc | apply pw_below_drewN | apply below_drew1) | exact HB.out)) hb); have m1 := Aside0.mk hbox; have m2 := Aside0.mk ((by rw [hg]; exact (below_size (by repeat (first | (with_reducible first | exact HB.out | apply below_alloc | apply pw_below_drewN | apply below_drew1) | exact HB.out))) : w.heap.size ≤ g3)); have m3 := Aside0.mk (blk_below (g := g2) (o := (.cells #[.int .i64 0, .int .i64 0, .int .i64 0, .string ⟨#[]⟩, .int .i64 0] 24 (0, 0))) (by (with_reducible repeat (first | refine blk_drewN ?_ _ | refine blk_drew ?_ | refine blk_alloc ?_ _)); exact B2.out) hb); have m4 := Aside0.mk ((by rw [hg]; exact (blk_lt (g := g2) (o := (.cells #[.int .i64 0, .int .i64 0, .int .i64 0, .string ⟨#[]⟩, .int .i64 0] 24 (0, 0))) (by (with_reducible repeat (first | refine blk_drewN ?_ _ | refine blk_drew ?_ | refine blk_alloc ?_ _)); exact B2.out))) : g2 < g3); clear HB B2; have HB := m0; have B3 := m1; have G3 := m2; have B2 := m3; have Ng2g3 := m4; clear m0 m1 m2 m3 m4; clear hb hbox hg))
  refine (wkind_ok k A0 c0 l0 r1 r2 _ (Kd.C_below HC0.out HB.out) HCL0.out ht hle).mono ?_
  rintro e w4 ⟨A, c, rfl, hR, hcl, hC, hb⟩
  have HNE := Aside0.mk (row_ne hR g2 (blk_lt B2.out))
  have HCL := Aside0.mk hcl
  have HC := Aside0.mk hC
  clear hR hcl hC HC0 HCL0 ht hle
  rw [HKD.out]
  have m0 := Aside0.mk (below_step (by repeat (first | (with_reducible first | exact HB.out | apply below_alloc | apply pw_below_drewN | apply below_drew1) | exact HB.out)) hb)
  have m1 := Aside0.mk (blk_below (g := g2) (o := (.cells #[.int .i64 0, .int .i64 0, .int .i64 0, .string ⟨#[]⟩, .int .i64 0] 24 (0, 0))) (by (with_reducible repeat (first | refine blk_drewN ?_ _ | refine blk_drew ?_ | refine blk_alloc ?_ _)); exact B2.out) hb)
  have m2 := Aside0.mk (blk_below (g := g3) (o := (.cells #[.int .i64 0] 28 (0, 0))) (by (with_reducible repeat (first | refine blk_drewN ?_ _ | refine blk_drew ?_ | refine blk_alloc ?_ _)); exact B3.out) hb)
  clear HB B2 B3
  have HB := m0
  have B2 := m1
  have B3 := m2
  clear m0 m1 m2
  have hcB20 := blk_cell B2.out 0
  simp only [List.getElem?_toArray, List.getElem?_cons_zero, List.getElem?_cons_succ] at hcB20
  have hfB20 := blk_frozen B2.out 0
  go_wp2_with (fail)
  have m2 := blk_put (cs' := #[.int .i64 kd, .int .i64 0, .int .i64 0, .string ⟨#[]⟩, .int .i64 0]) B2.out 0 (.int .i64 kd) rfl
  have m3 := blk_far (p := ⟨g2, 0, none⟩) B3.out (Ne.symm (Nat.ne_of_lt Ng2g3.out)) (.int .i64 kd)
  have m0 := Below.setCell (p := ⟨g2, 0, none⟩) HB.out G2.out (.int .i64 kd)
  have mC := Kd.C_keep 0 HC.out ((KeepBut.refl _ g2 none).set_ 0 (.int .i64 kd)) (fun ad e _ => HNE.out ad e)
  clear HB B2 B3 HC hcB20 hfB20
  generalize w4.setCell ⟨g2, 0, none⟩ (.int .i64 kd) = w5 at m0 m2 m3 mC ⊢
  have hcell : w5.cell? ⟨g2, 0, none⟩ = some (.int .i64 kd) := by
    have q := blk_cell m2 0
    simpa using q
  refine (wpa_some kd os HOS.out g2 w5 hcell).mono ?_
  rintro e w6 ⟨L, rfl, hb, hL, hlb⟩
  have hnn := fun (w : World) => run_neq_slice_nil_any (P := Try.prog) w 52 20 (some ⟨L, 0, none⟩) os.length os.length 0 0 Try.underlying52
  have HB := Aside0.mk (below_step m0 hb)
  have B2 := Aside0.mk (blk_below m2 hb)
  have B3 := Aside0.mk (blk_below m3 hb)
  have BL := Aside0.mk hlb
  have HC := Aside0.mk (Kd.C_below mC hb)
  clear m0 m2 m3 mC hb hL hlb hcell
  go_wp2_with (first | ((go_at_call 27); (with_reducible refine (must_ok _).mono ?_); rintro e wm ⟨rfl, rfl⟩))
  have hfl : (fps 3 g2 os).length = os.length := by simp [fps]
  have hmem : ∀ f ∈ fps 3 g2 os, ∃ o, o < 5 ∧ f.2 = ⟨g2, o, none⟩ := by
    intro f hf
    simp only [fps, List.mem_map] at hf
    obtain ⟨o, ho, rfl⟩ := hf
    refine ⟨o, ?_, rfl⟩
    rcases msgOffs_cases HOS.out with rfl | rfl <;> (simp at ho; omega)
  have hwr := wread k L c A (fps 3 g2 os) r2 RES _ BL.out (fun f hf => by
    obtain ⟨o, h1, h2⟩ := hmem f hf
    rw [h2]
    exact ⟨⟨_, _, B2.out, by decide, by simpa using h1⟩, rfl⟩) HC.out HCL.out (fun ad e _ f hf => by
    obtain ⟨o, h1, h2⟩ := hmem f hf
    rw [h2]
    exact HNE.out ad e) (by rw [hfl]; rcases msgOffs_cases HOS.out with rfl | rfl <;> simp) (by rw [fps_fst]; exact HRD.out)
  rw [hfl] at hwr
  refine hwr.mono ?_
  clear hwr
  rintro e w8 ⟨vs, hcase, hb⟩
  obtain ⟨hB8, hfar, hsz⟩ := read_after HB.out (below_size HB.out) hb (fun f hf => by
    obtain ⟨o, h1, h2⟩ := hmem f hf
    rw [h2]
    exact ⟨G2.out, rfl⟩)
  have b3 := hfar g3 _ B3.out (fun f hf => by
    obtain ⟨o, h1, h2⟩ := hmem f hf
    rw [h2]
    exact Nat.ne_of_lt Ng2g3.out)
  rcases hcase with ⟨hx, rfl, hvl⟩ | ⟨hx, rfl⟩
  rotate_left
  · obtain ⟨cs', b2, hs2⟩ := hsz g2 _ _ B2.out
    obtain ⟨z0, z1, z2, z3, z4, rfl⟩ := arr5 hs2
    refine doorMessage_bad _ g2 g3 w.heap.size rfl rfl 0 z0 z1 z2 z3 z4 w w8 hB8 (below_size hB8) G2.out G3.out b2 b3 _ ?_
    intro w' hb
    exact ⟨.inr ⟨hx, rfl⟩, hb⟩
  · subst hx
    have hk : vs.map isTx = os.map (· == 3) := by
      obtain ⟨us, e1, e2⟩ := wireRd_kinds k _ _ _ _ HRD.out
      rw [List.nil_append] at e1
      rw [e1]
      exact e2
    have q := wput_cells (List.zip os (vs.map fval)) B2.out
    rw [← puts_fps 3] at q
    have b2 := (hb.block g2 (blk_lt B2.out)).trans q
    clear q
    rw [put_msg kd kd os vs HOS.out hk] at b2
    clear HB B2 B3 BL HC HCL hb hfar hsz hk hvl hmem hfl HRD HNE
    unfold msgVals at b2
    obtain ⟨x1, hx1⟩ : ∃ x, getN os vs 1 = x := ⟨_, rfl⟩
    obtain ⟨x2, hx2⟩ : ∃ x, getN os vs 2 = x := ⟨_, rfl⟩
    obtain ⟨x3, hx3⟩ : ∃ x, getS os vs 3 = x := ⟨_, rfl⟩
    obtain ⟨x4, hx4⟩ : ∃ x, getN os vs 4 = x := ⟨_, rfl⟩
    simp only [hx1, hx2, hx3, hx4] at b2
    have HX1 := Aside0.mk hx1
    have HX2 := Aside0.mk hx2
    have HX3 := Aside0.mk hx3
    have HX4 := Aside0.mk hx4
    clear hx1 hx2 hx3 hx4
    have HB := Aside0.mk hB8
    have B2 := Aside0.mk b2
    have B3 := Aside0.mk b3
    have N23 := Aside0.mk (Nat.ne_of_lt Ng2g3.out)
    clear hB8 b2 b3
    have hcB20 := blk_cell B2.out 0
    simp only [List.getElem?_toArray, List.getElem?_cons_zero, List.getElem?_cons_succ] at hcB20
    have hfB20 := blk_frozen B2.out 0
    have hcB21 := blk_cell B2.out 1
    simp only [List.getElem?_toArray, List.getElem?_cons_zero, List.getElem?_cons_succ] at hcB21
    have hfB21 := blk_frozen B2.out 1
    have hcB22 := blk_cell B2.out 2
    simp only [List.getElem?_toArray, List.getElem?_cons_zero, List.getElem?_cons_succ] at hcB22
    have hfB22 := blk_frozen B2.out 2
    have hcB23 := blk_cell B2.out 3
    simp only [List.getElem?_toArray, List.getElem?_cons_zero, List.getElem?_cons_succ] at hcB23
    have hfB23 := blk_frozen B2.out 3
    have hcB24 := blk_cell B2.out 4
    simp only [List.getElem?_toArray, List.getElem?_cons_zero, List.getElem?_cons_succ] at hcB24
    have hfB24 := blk_frozen B2.out 4
    have hc3 := blk_cell B3.out 0
    have hf3 := blk_frozen B3.out 0
    simp only [List.getElem?_toArray, List.getElem?_cons_zero, List.getElem?_cons_succ] at hc3
    have hne1 : ¬ g2 = g3 := N23.out
    have hne2 : ¬ g3 = g2 := fun e => N23.out e.symm
    go_wp2_with (fail)
    have j2 := blk_far (p := ⟨g3, 0, none⟩) (blk_put (cs' := #[.int .i64 kd, .int .i64 x1, .int .i64 x2, .string x3, .int .i64 x4]) (blk_put (cs' := #[.int .i64 kd, .int .i64 x1, .int .i64 x2, .string x3, .int .i64 x4]) (blk_put (cs' := #[.int .i64 kd, .int .i64 x1, .int .i64 x2, .string x3, .int .i64 x4]) (blk_put (cs' := #[.int .i64 kd, .int .i64 x1, .int .i64 x2, .string x3, .int .i64 x4]) (blk_put (cs' := #[.int .i64 kd, .int .i64 x1, .int .i64 x2, .string x3, .int .i64 x4]) B2.out 0 (.int .i64 kd) rfl) 1 (.int .i64 x1) rfl) 2 (.int .i64 x2) rfl) 3 (.string x3) rfl) 4 (.int .i64 x4) rfl) N23.out (.int .i64 0)
    have j3 := blk_put (cs' := #[.int .i64 0]) (blk_far (p := ⟨g2, 4, none⟩) (blk_far (p := ⟨g2, 3, none⟩) (blk_far (p := ⟨g2, 2, none⟩) (blk_far (p := ⟨g2, 1, none⟩) (blk_far (p := ⟨g2, 0, none⟩) B3.out (Ne.symm N23.out) (.int .i64 kd)) (Ne.symm N23.out) (.int .i64 x1)) (Ne.symm N23.out) (.int .i64 x2)) (Ne.symm N23.out) (.string x3)) (Ne.symm N23.out) (.int .i64 x4)) 0 (.int .i64 0) rfl
    have jB := (((((HB.out.setCell (p := ⟨g2, 0, none⟩) G2.out (.int .i64 kd)).setCell (p := ⟨g2, 1, none⟩) G2.out (.int .i64 x1)).setCell (p := ⟨g2, 2, none⟩) G2.out (.int .i64 x2)).setCell (p := ⟨g2, 3, none⟩) G2.out (.string x3)).setCell (p := ⟨g2, 4, none⟩) G2.out (.int .i64 x4)).setCell (p := ⟨g3, 0, none⟩) G3.out (.int .i64 0)
    refine doorB_ok 33 clMessage_ok (fun _ _ _ => by simp [go_sem]) Try.f12 _ g2 g3 _ j3 _ (.tuple #[.agg #[.int .i64 kd, .int .i64 x1, .int .i64 x2, .string x3, .int .i64 x4], .int .i64 0]) ?_ ⟨.inl ⟨vs, rfl, by unfold msgVals; simp only [HX1.out, HX2.out, HX3.out, HX4.out]⟩, jB⟩
    exact results_sc rfl _ _ ⟨g2, 0, none⟩ rfl _ (run_loadVar_row _ g2 _ 24 #[.int .i64 kd, .int .i64 x1, .int .i64 x2, .string x3, .int .i64 x4] (0, 0) _ j2 Try.underlying24 rfl (by kernel_rfl)) ⟨g3, 0, none⟩ rfl (.int .i64 0) (load_errno j3)

def wire_ReadMsg.f (k : Nat) (l0 : List Int) : Option (Int × Int × Int × ByteArray × Int × Int) :=
  (code_TakeNum.f k l0).bind fun r => if r.2.2 = true ∧ r.1 ≤ 1000 then (match msgOffs (wrap64 r.1) with
    | none => some (0, 0, 0, ⟨#[]⟩, 0, 220)
    | some os => (wireRd k (os.map (· == 3)) r.2.1 []).bind fun x => match x with
      | none => some (0, 0, 0, ⟨#[]⟩, 0, 220)
      | some vs => some (wrap64 r.1, getN os vs 1, getN os vs 2, getS os vs 3, getN os vs 4, 0)) else some (0, 0, 0, ⟨#[]⟩, 0, 220)
theorem wire_ReadMsg.mono : ∀ l0 k, LeO (wire_ReadMsg.f k l0) (wire_ReadMsg.f (k + 1) l0) := by
  intro l0 k
  unfold wire_ReadMsg.f
  refine LeO.bind (code_TakeNum.mono _ k) (fun r => LeO.ite ?_ (LeO.refl _))
  cases msgOffs (wrap64 r.1) with
  | none => exact LeO.refl _
  | some os => exact LeO.bind (wireRd_mono _ _ _ k) (fun _ => LeO.refl _)
theorem wire_ReadMsg.calls (k : Nat) (A0 : Option Addr) (c0 : Nat) (l0 : List Int) (r1 : Int) (r2 : Int) (r3 : Int) (r4 : ByteArray) (r5 : Int) (r6 : Int) (w : World) (hr0 : Kd.C (Kd.int .u8) w A0 l0.length l0) (hc0 : l0.length ≤ c0) (h : wire_ReadMsg.f k l0 = some (r1, r2, r3, r4, r5, r6)) :
    Calls Try.prog 12 #[.slice A0 l0.length c0] w fun e w' => e = .returned (.tuple #[.agg #[.int .i64 r1, .int .i64 r2, .int .i64 r3, .string r4, .int .i64 r5], .int .i64 r6]) ∧ Below w.heap.size w w' := by
  unfold wire_ReadMsg.f at h
  obtain ⟨⟨t1, t2, t3⟩, ht, h⟩ := Option.bind_eq_some_iff.mp h
  dsimp only at h
  by_cases hle : t3 = true ∧ t1 ≤ 1000
  · rw [if_pos hle] at h
    obtain ⟨rfl, hle⟩ := hle
    obtain ⟨kd, hkd⟩ : ∃ kd, wrap64 t1 = kd := ⟨_, rfl⟩
    rw [hkd] at h
    obtain ⟨oo, ho⟩ : ∃ oo, msgOffs kd = oo := ⟨_, rfl⟩
    rw [ho] at h
    cases oo with
    | none =>
      simp only [Option.some.injEq, Prod.mk.injEq] at h
      obtain ⟨rfl, rfl, rfl, rfl, rfl, rfl⟩ := h
      exact wReadMsg_not k A0 c0 l0 w hr0 hc0 t1 t2 kd ht hle hkd ho
    | some os =>
      dsimp only at h
      obtain ⟨x, hx, h⟩ := Option.bind_eq_some_iff.mp h
      refine (wReadMsg_some k A0 c0 l0 w hr0 hc0 t1 t2 kd ht hle hkd os ho x hx).mono ?_
      rintro e w' ⟨⟨vs, rfl, rfl⟩ | ⟨rfl, rfl⟩, hb⟩
      · simp only [Option.some.injEq, Prod.mk.injEq] at h
        obtain ⟨rfl, rfl, rfl, rfl, rfl, rfl⟩ := h
        exact ⟨rfl, hb⟩
      · simp only [Option.some.injEq, Prod.mk.injEq] at h
        obtain ⟨rfl, rfl, rfl, rfl, rfl, rfl⟩ := h
        exact ⟨rfl, hb⟩
  · rw [if_neg hle] at h
    simp only [Option.some.injEq, Prod.mk.injEq] at h
    obtain ⟨rfl, rfl, rfl, rfl, rfl, rfl⟩ := h
    exact wReadMsg_bad k A0 c0 l0 w hr0 hc0 t1 t2 t3 ht hle

-- NOT PRINTED: function 39 (wire_fields)

/-! ### ours: wireF -/

set_option maxHeartbeats 2000000 in
theorem wfi_1 (g : Nat) (w : World) (hk : w.cell? ⟨g, 0, none⟩ = some (.int .i64 1)) :
    Calls Try.prog 39 #[.pointer (some ⟨g, 0, none⟩)] w fun e w' => ∃ L : Nat, e = .returned (.slice (some ⟨L, 0, none⟩) 2 2) ∧ Below w.heap.size w w' ∧ w.heap.size ≤ L ∧ w'.heap[L]? = some (lob (fps 1 g [1, 3])) := by
  go_enter Try.func39, Try.ntmps39
  go_wp2
  go_region
  all_goals
    dsimp only [Exit.then]
    go_wp2
    go_ret
    exact ⟨w.heap.size, rfl, (Below.drew ((Below.refl w.heap.size w).alloc (Nat.le_refl _) _)), Nat.le_refl _, blk_drew (blk_new w _)⟩

set_option maxHeartbeats 2000000 in
theorem wfi_2 (g : Nat) (w : World) (hk : w.cell? ⟨g, 0, none⟩ = some (.int .i64 2)) :
    Calls Try.prog 39 #[.pointer (some ⟨g, 0, none⟩)] w fun e w' => ∃ L : Nat, e = .returned (.slice (some ⟨L, 0, none⟩) 2 2) ∧ Below w.heap.size w w' ∧ w.heap.size ≤ L ∧ w'.heap[L]? = some (lob (fps 1 g [1, 3])) := by
  go_enter Try.func39, Try.ntmps39
  go_wp2
  go_region
  all_goals
    dsimp only [Exit.then]
    go_wp2
    go_ret
    exact ⟨w.heap.size, rfl, (Below.drew ((Below.refl w.heap.size w).alloc (Nat.le_refl _) _)), Nat.le_refl _, blk_drew (blk_new w _)⟩

set_option maxHeartbeats 2000000 in
theorem wfi_8 (g : Nat) (w : World) (hk : w.cell? ⟨g, 0, none⟩ = some (.int .i64 8)) :
    Calls Try.prog 39 #[.pointer (some ⟨g, 0, none⟩)] w fun e w' => ∃ L : Nat, e = .returned (.slice (some ⟨L, 0, none⟩) 2 2) ∧ Below w.heap.size w w' ∧ w.heap.size ≤ L ∧ w'.heap[L]? = some (lob (fps 1 g [1, 3])) := by
  go_enter Try.func39, Try.ntmps39
  go_wp2
  go_region
  all_goals
    dsimp only [Exit.then]
    go_wp2
    go_ret
    exact ⟨w.heap.size, rfl, (Below.drew ((Below.refl w.heap.size w).alloc (Nat.le_refl _) _)), Nat.le_refl _, blk_drew (blk_new w _)⟩

set_option maxHeartbeats 2000000 in
theorem wfi_3 (g : Nat) (w : World) (hk : w.cell? ⟨g, 0, none⟩ = some (.int .i64 3)) :
    Calls Try.prog 39 #[.pointer (some ⟨g, 0, none⟩)] w fun e w' => ∃ L : Nat, e = .returned (.slice (some ⟨L, 0, none⟩) 4 4) ∧ Below w.heap.size w w' ∧ w.heap.size ≤ L ∧ w'.heap[L]? = some (lob (fps 1 g [1, 2, 3, 4])) := by
  go_enter Try.func39, Try.ntmps39
  go_wp2
  go_region
  all_goals
    dsimp only [Exit.then]
    go_wp2
    go_ret
    exact ⟨w.heap.size, rfl, (Below.drew ((Below.refl w.heap.size w).alloc (Nat.le_refl _) _)), Nat.le_refl _, blk_drew (blk_new w _)⟩

set_option maxHeartbeats 2000000 in
theorem wfi_4 (g : Nat) (w : World) (hk : w.cell? ⟨g, 0, none⟩ = some (.int .i64 4)) :
    Calls Try.prog 39 #[.pointer (some ⟨g, 0, none⟩)] w fun e w' => ∃ L : Nat, e = .returned (.slice (some ⟨L, 0, none⟩) 2 2) ∧ Below w.heap.size w w' ∧ w.heap.size ≤ L ∧ w'.heap[L]? = some (lob (fps 1 g [1, 2])) := by
  go_enter Try.func39, Try.ntmps39
  go_wp2
  go_region
  all_goals
    dsimp only [Exit.then]
    go_wp2
    go_ret
    exact ⟨w.heap.size, rfl, (Below.drew ((Below.refl w.heap.size w).alloc (Nat.le_refl _) _)), Nat.le_refl _, blk_drew (blk_new w _)⟩

set_option maxHeartbeats 2000000 in
theorem wfi_5 (g : Nat) (w : World) (hk : w.cell? ⟨g, 0, none⟩ = some (.int .i64 5)) :
    Calls Try.prog 39 #[.pointer (some ⟨g, 0, none⟩)] w fun e w' => ∃ L : Nat, e = .returned (.slice (some ⟨L, 0, none⟩) 2 2) ∧ Below w.heap.size w w' ∧ w.heap.size ≤ L ∧ w'.heap[L]? = some (lob (fps 1 g [1, 2])) := by
  go_enter Try.func39, Try.ntmps39
  go_wp2
  go_region
  all_goals
    dsimp only [Exit.then]
    go_wp2
    go_ret
    exact ⟨w.heap.size, rfl, (Below.drew ((Below.refl w.heap.size w).alloc (Nat.le_refl _) _)), Nat.le_refl _, blk_drew (blk_new w _)⟩

set_option maxHeartbeats 2000000 in
theorem wfi_6 (g : Nat) (w : World) (hk : w.cell? ⟨g, 0, none⟩ = some (.int .i64 6)) :
    Calls Try.prog 39 #[.pointer (some ⟨g, 0, none⟩)] w fun e w' => ∃ L : Nat, e = .returned (.slice (some ⟨L, 0, none⟩) 1 1) ∧ Below w.heap.size w w' ∧ w.heap.size ≤ L ∧ w'.heap[L]? = some (lob (fps 1 g [1])) := by
  go_enter Try.func39, Try.ntmps39
  go_wp2
  go_ret
  exact ⟨w.heap.size, rfl, ((Below.refl w.heap.size w).alloc (Nat.le_refl _) _), Nat.le_refl _, blk_new w _⟩

set_option maxHeartbeats 2000000 in
theorem wfi_12 (g : Nat) (w : World) (hk : w.cell? ⟨g, 0, none⟩ = some (.int .i64 12)) :
    Calls Try.prog 39 #[.pointer (some ⟨g, 0, none⟩)] w fun e w' => ∃ L : Nat, e = .returned (.slice (some ⟨L, 0, none⟩) 1 1) ∧ Below w.heap.size w w' ∧ w.heap.size ≤ L ∧ w'.heap[L]? = some (lob (fps 1 g [1])) := by
  go_enter Try.func39, Try.ntmps39
  go_wp2
  go_ret
  exact ⟨w.heap.size, rfl, ((Below.refl w.heap.size w).alloc (Nat.le_refl _) _), Nat.le_refl _, blk_new w _⟩

set_option maxHeartbeats 2000000 in
theorem wfi_7 (g : Nat) (w : World) (hk : w.cell? ⟨g, 0, none⟩ = some (.int .i64 7)) :
    Calls Try.prog 39 #[.pointer (some ⟨g, 0, none⟩)] w fun e w' => ∃ L : Nat, e = .returned (.slice (some ⟨L, 0, none⟩) 1 1) ∧ Below w.heap.size w w' ∧ w.heap.size ≤ L ∧ w'.heap[L]? = some (lob (fps 1 g [3])) := by
  go_enter Try.func39, Try.ntmps39
  go_wp2
  go_ret
  exact ⟨w.heap.size, rfl, ((Below.refl w.heap.size w).alloc (Nat.le_refl _) _), Nat.le_refl _, blk_new w _⟩

set_option maxHeartbeats 2000000 in
theorem wfi_9 (g : Nat) (w : World) (hk : w.cell? ⟨g, 0, none⟩ = some (.int .i64 9)) :
    Calls Try.prog 39 #[.pointer (some ⟨g, 0, none⟩)] w fun e w' => ∃ L : Nat, e = .returned (.slice (some ⟨L, 0, none⟩) 3 3) ∧ Below w.heap.size w w' ∧ w.heap.size ≤ L ∧ w'.heap[L]? = some (lob (fps 1 g [1, 5, 3])) := by
  go_enter Try.func39, Try.ntmps39
  go_wp2
  go_region
  all_goals
    dsimp only [Exit.then]
    go_wp2
    go_ret
    exact ⟨w.heap.size, rfl, (Below.drew ((Below.refl w.heap.size w).alloc (Nat.le_refl _) _)), Nat.le_refl _, blk_drew (blk_new w _)⟩

set_option maxHeartbeats 2000000 in
theorem wfi_10 (g : Nat) (w : World) (hk : w.cell? ⟨g, 0, none⟩ = some (.int .i64 10)) :
    Calls Try.prog 39 #[.pointer (some ⟨g, 0, none⟩)] w fun e w' => ∃ L : Nat, e = .returned (.slice (some ⟨L, 0, none⟩) 2 2) ∧ Below w.heap.size w w' ∧ w.heap.size ≤ L ∧ w'.heap[L]? = some (lob (fps 1 g [5, 6])) := by
  go_enter Try.func39, Try.ntmps39
  go_wp2
  go_region
  all_goals
    dsimp only [Exit.then]
    go_wp2
    go_ret
    exact ⟨w.heap.size, rfl, (Below.drew ((Below.refl w.heap.size w).alloc (Nat.le_refl _) _)), Nat.le_refl _, blk_drew (blk_new w _)⟩

set_option maxHeartbeats 2000000 in
theorem wfi_11 (g : Nat) (w : World) (hk : w.cell? ⟨g, 0, none⟩ = some (.int .i64 11)) :
    Calls Try.prog 39 #[.pointer (some ⟨g, 0, none⟩)] w fun e w' => ∃ L : Nat, e = .returned (.slice (some ⟨L, 0, none⟩) 4 4) ∧ Below w.heap.size w w' ∧ w.heap.size ≤ L ∧ w'.heap[L]? = some (lob (fps 1 g [5, 6, 1, 3])) := by
  go_enter Try.func39, Try.ntmps39
  go_wp2
  go_region
  all_goals
    dsimp only [Exit.then]
    go_wp2
    go_ret
    exact ⟨w.heap.size, rfl, (Below.drew ((Below.refl w.heap.size w).alloc (Nat.le_refl _) _)), Nat.le_refl _, blk_drew (blk_new w _)⟩

set_option maxHeartbeats 2000000 in
theorem wfi_none (k : Int) (g : Nat) (w : World) (hk : w.cell? ⟨g, 0, none⟩ = some (.int .i64 k)) (h1 : k ≠ 1) (h2 : k ≠ 2) (h3 : k ≠ 3) (h4 : k ≠ 4) (h5 : k ≠ 5) (h6 : k ≠ 6) (h7 : k ≠ 7) (h8 : k ≠ 8) (h9 : k ≠ 9) (h10 : k ≠ 10) (h11 : k ≠ 11) (h12 : k ≠ 12) :
    Calls Try.prog 39 #[.pointer (some ⟨g, 0, none⟩)] w fun e w' => e = .returned (.slice none 0 0) ∧ w' = w := by
  have b1 : (k == 1) = false := by simpa using h1
  have b2 : (k == 2) = false := by simpa using h2
  have b3 : (k == 3) = false := by simpa using h3
  have b4 : (k == 4) = false := by simpa using h4
  have b5 : (k == 5) = false := by simpa using h5
  have b6 : (k == 6) = false := by simpa using h6
  have b7 : (k == 7) = false := by simpa using h7
  have b8 : (k == 8) = false := by simpa using h8
  have b9 : (k == 9) = false := by simpa using h9
  have b10 : (k == 10) = false := by simpa using h10
  have b11 : (k == 11) = false := by simpa using h11
  have b12 : (k == 12) = false := by simpa using h12
  clear h1 h2 h3 h4 h5 h6 h7 h8 h9 h10 h11 h12
  go_enter Try.func39, Try.ntmps39
  go_wp2
  go_ret
  exact ⟨rfl, rfl⟩

theorem wfi_some (k : Int) (os : List Nat) (ho : reqOffs k = some os) (g : Nat) (w : World) (hk : w.cell? ⟨g, 0, none⟩ = some (.int .i64 k)) :
    Calls Try.prog 39 #[.pointer (some ⟨g, 0, none⟩)] w fun e w' => ∃ L : Nat, e = .returned (.slice (some ⟨L, 0, none⟩) os.length os.length) ∧ Below w.heap.size w w' ∧ w.heap.size ≤ L ∧ w'.heap[L]? = some (lob (fps 1 g os)) := by
  by_cases h1 : k = 1
  · subst h1
    obtain rfl : os = [1, 3] := by simp [reqOffs] at ho; exact ho.symm
    exact wfi_1 g w hk
  by_cases h2 : k = 2
  · subst h2
    obtain rfl : os = [1, 3] := by simp [reqOffs] at ho; exact ho.symm
    exact wfi_2 g w hk
  by_cases h3 : k = 3
  · subst h3
    obtain rfl : os = [1, 2, 3, 4] := by simp [reqOffs] at ho; exact ho.symm
    exact wfi_3 g w hk
  by_cases h4 : k = 4
  · subst h4
    obtain rfl : os = [1, 2] := by simp [reqOffs] at ho; exact ho.symm
    exact wfi_4 g w hk
  by_cases h5 : k = 5
  · subst h5
    obtain rfl : os = [1, 2] := by simp [reqOffs] at ho; exact ho.symm
    exact wfi_5 g w hk
  by_cases h6 : k = 6
  · subst h6
    obtain rfl : os = [1] := by simp [reqOffs] at ho; exact ho.symm
    exact wfi_6 g w hk
  by_cases h7 : k = 7
  · subst h7
    obtain rfl : os = [3] := by simp [reqOffs] at ho; exact ho.symm
    exact wfi_7 g w hk
  by_cases h8 : k = 8
  · subst h8
    obtain rfl : os = [1, 3] := by simp [reqOffs] at ho; exact ho.symm
    exact wfi_8 g w hk
  by_cases h9 : k = 9
  · subst h9
    obtain rfl : os = [1, 5, 3] := by simp [reqOffs] at ho; exact ho.symm
    exact wfi_9 g w hk
  by_cases h10 : k = 10
  · subst h10
    obtain rfl : os = [5, 6] := by simp [reqOffs] at ho; exact ho.symm
    exact wfi_10 g w hk
  by_cases h11 : k = 11
  · subst h11
    obtain rfl : os = [5, 6, 1, 3] := by simp [reqOffs] at ho; exact ho.symm
    exact wfi_11 g w hk
  by_cases h12 : k = 12
  · subst h12
    obtain rfl : os = [1] := by simp [reqOffs] at ho; exact ho.symm
    exact wfi_12 g w hk
  · simp [reqOffs, *] at ho
theorem wfi_not (k : Int) (ho : reqOffs k = none) (g : Nat) (w : World) (hk : w.cell? ⟨g, 0, none⟩ = some (.int .i64 k)) :
    Calls Try.prog 39 #[.pointer (some ⟨g, 0, none⟩)] w fun e w' => e = .returned (.slice none 0 0) ∧ w' = w := by
  refine wfi_none k g w hk ?_ ?_ ?_ ?_ ?_ ?_ ?_ ?_ ?_ ?_ ?_ ?_ <;> (rintro rfl; simp [reqOffs] at ho)

end Go.Proofs.Ytklnnmgfoebbhaa.PWireBack
