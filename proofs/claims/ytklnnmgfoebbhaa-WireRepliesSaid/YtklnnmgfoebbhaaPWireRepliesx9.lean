-- Written by wip/xprint of this repo (our own program) out of the translation; what is marked BY HAND is ours. Not trusted: Lean checks it.
import Derived.Test.YtklnnmgfoebbhaaPWireRepliesx0
import Derived.Test.YtklnnmgfoebbhaaPWireRepliesx3
import Derived.Test.YtklnnmgfoebbhaaPWireRepliesx4
import Derived.Test.YtklnnmgfoebbhaaPWireRepliesx6
namespace Go.Proofs.Ytklnnmgfoebbhaa.PWireReplies
open Go.RowKit Go.Proofs.YtklnnmgfoebbhaaW.PrintWords Go.Proofs.YtklnnmgfoebbhaaW.PrintLast Go.Proofs.YtklnnmgfoebbhaaW.PrintMore
attribute [local go_sem] max2_int min2_int max_two min_two max_three min_three max_four min_four   -- for this text's walks alone
set_option linter.unusedVariables false
set_option linter.unusedSimpArgs false

/-! ### wire_ReadReply: function 21 -/
-- BY HAND

theorem clReply_bad (g g2 : Nat) (x : Int) (u : FrameMode) (z0 z1 z2 z3 z4 : Value) (w : World) (hx : x ≠ 0) (hc : w.heap[g]? = some (.cells #[.int .i64 x] 28 (0, 0))) (hc2 : w.heap[g2]? = some (.cells #[z0, z1, z2, z3, z4] 43 (0, 0))) :
    CallsD Try.prog 46 #[.pointer (some ⟨g, 0, none⟩), .pointer (some ⟨g2, 0, none⟩)] u w fun e u' w' =>
      u' = u ∧ (e = .returned (.tuple #[]) ∧ w' = (((((w.setCell ⟨g2, 0, none⟩ (Value.int .i64 0)).setCell ⟨g2, 1, none⟩ (Value.int .i64 0)).setCell ⟨g2, 2, none⟩ (Value.int .i64 0)).setCell ⟨g2, 3, none⟩ (Value.int .i64 0)).setCell ⟨g2, 4, none⟩ (Value.int .i64 0))) := by
  have h1 := blk_cell hc 0
  simp only [List.getElem?_toArray, List.getElem?_cons_zero] at h1
  have k0 := blk_cell hc2 0; have f0 := blk_frozen hc2 0; simp only [List.getElem?_toArray, List.getElem?_cons_zero, List.getElem?_cons_succ] at k0; have k1 := blk_cell hc2 1; have f1 := blk_frozen hc2 1; simp only [List.getElem?_toArray, List.getElem?_cons_zero, List.getElem?_cons_succ] at k1; have k2 := blk_cell hc2 2; have f2 := blk_frozen hc2 2; simp only [List.getElem?_toArray, List.getElem?_cons_zero, List.getElem?_cons_succ] at k2; have k3 := blk_cell hc2 3; have f3 := blk_frozen hc2 3; simp only [List.getElem?_toArray, List.getElem?_cons_zero, List.getElem?_cons_succ] at k3; have k4 := blk_cell hc2 4; have f4 := blk_frozen hc2 4; simp only [List.getElem?_toArray, List.getElem?_cons_zero, List.getElem?_cons_succ] at k4
  have hx1 : (x != 0) = true := by simpa using hx
  have hx2 : (x == 0) = false := by simpa using hx
  go_enter_d Try.func46, Try.ntmps46
  go_wp2
  go_end0
  exact ⟨rfl, rfl⟩
theorem clReply_ok (g : Nat) (p : Addr) (u : FrameMode) (w : World) (hc : w.heap[g]? = some (.cells #[.int .i64 0] 28 (0, 0))) :
    CallsD Try.prog 46 #[.pointer (some ⟨g, 0, none⟩), .pointer (some p)] u w fun e u' w' =>
      u' = u ∧ (e = .returned (.tuple #[]) ∧ w' = w) := by
  have h1 := blk_cell hc 0
  simp only [List.getElem?_toArray, List.getElem?_cons_zero] at h1
  go_enter_d Try.func46, Try.ntmps46
  go_wp2
  go_end0
  exact ⟨rfl, rfl⟩

set_option maxHeartbeats 2000000 in
theorem doorReply_bad (tmps : Array Value) (g2 g3 B : Nat) (h2 : tmps.getD 2 undef = .pointer (some ⟨g2, 0, none⟩)) (h3 : tmps.getD 3 undef = .pointer (some ⟨g3, 0, none⟩)) (x : Int) (z0 z1 z2 z3 z4 : Value) (w0 W : World)
    (hB : Below B w0 W) (hb : B ≤ W.heap.size) (hb2 : B ≤ g2) (hb3 : B ≤ g3) (H2 : W.heap[g2]? = some (.cells #[z0, z1, z2, z3, z4] 43 (0, 0))) (H3 : W.heap[g3]? = some (.cells #[.int .i64 x] 28 (0, 0))) (R : Ending → World → Prop)
    (hR : ∀ w', Below B w0 w' → R (.returned (.tuple #[.agg #[.int .i64 0, .int .i64 0, .int .i64 0, .int .i64 0, .int .i64 0], .int .i64 220])) w') :
    Leaves Try.prog Try.f21 tmps R (dfs 46 g2 g3) (.panicking wbad) W := by
  have hne := blk_ne H2 H3 (by decide)
  refine leaves_cons (f := 24) (args := #[.pointer (some ⟨g3, 0, none⟩)]) (by simp) (by simp [go_sem]) ?_
  refine (caught_bad g3 x W H3).mono ?_
  rintro e u' w' ⟨rfl, rfl, o, rfl⟩
  have K3 := blk_set (blk_alloc H3 o) 0 (.int .i64 220)
  have K2 := blk_far (p := ⟨g3, 0, none⟩) (blk_alloc H2 o) hne (.int .i64 220)
  have hB1 : Below B w0 ((W.alloc o).setCell ⟨g3, 0, none⟩ (.int .i64 220)) := (hB.alloc hb o).setCell (p := ⟨g3, 0, none⟩) hb3 _
  simp only [Array.setIfInBounds, List.size_toArray, List.length_cons, List.length_nil, Nat.zero_add, Nat.lt_add_one, dite_true, List.set_toArray, List.set_cons_zero] at K3
  generalize (W.alloc o).setCell ⟨g3, 0, none⟩ (.int .i64 220) = W1 at K2 K3 hB1 ⊢
  refine leaves_cons (f := 46) (args := #[.pointer (some ⟨g3, 0, none⟩), .pointer (some ⟨g2, 0, none⟩)]) (by simp [settle]) (by simp [go_sem]) ?_
  refine (clReply_bad g3 g2 220 _ z0 z1 z2 z3 z4 W1 (by decide) K3 K2).mono ?_
  rintro e u' w' ⟨rfl, rfl, rfl⟩
  have L2 := K2
  have L3 := K3
  have hB2 := hB1
  have L2 := blk_set L2 0 (.int .i64 0)
  have L3 := blk_far (p := ⟨g2, 0, none⟩) L3 (Ne.symm hne) (.int .i64 0)
  have hB2 := hB2.setCell (p := ⟨g2, 0, none⟩) hb2 (.int .i64 0)
  have L2 := blk_set L2 1 (.int .i64 0)
  have L3 := blk_far (p := ⟨g2, 1, none⟩) L3 (Ne.symm hne) (.int .i64 0)
  have hB2 := hB2.setCell (p := ⟨g2, 1, none⟩) hb2 (.int .i64 0)
  have L2 := blk_set L2 2 (.int .i64 0)
  have L3 := blk_far (p := ⟨g2, 2, none⟩) L3 (Ne.symm hne) (.int .i64 0)
  have hB2 := hB2.setCell (p := ⟨g2, 2, none⟩) hb2 (.int .i64 0)
  have L2 := blk_set L2 3 (.int .i64 0)
  have L3 := blk_far (p := ⟨g2, 3, none⟩) L3 (Ne.symm hne) (.int .i64 0)
  have hB2 := hB2.setCell (p := ⟨g2, 3, none⟩) hb2 (.int .i64 0)
  have L2 := blk_set L2 4 (.int .i64 0)
  have L3 := blk_far (p := ⟨g2, 4, none⟩) L3 (Ne.symm hne) (.int .i64 0)
  have hB2 := hB2.setCell (p := ⟨g2, 4, none⟩) hb2 (.int .i64 0)
  refine ⟨.tuple #[.agg #[.int .i64 0, .int .i64 0, .int .i64 0, .int .i64 0, .int .i64 0], .int .i64 220], ?_, hR _ hB2⟩
  have M2 : (((((W1.setCell ⟨g2, 0, none⟩ (.int .i64 0)).setCell ⟨g2, 1, none⟩ (.int .i64 0)).setCell ⟨g2, 2, none⟩ (.int .i64 0)).setCell ⟨g2, 3, none⟩ (.int .i64 0)).setCell ⟨g2, 4, none⟩ (.int .i64 0)).heap[g2]? = some (.cells #[.int .i64 0, .int .i64 0, .int .i64 0, .int .i64 0, .int .i64 0] 43 (0, 0)) := L2
  generalize (((((W1.setCell ⟨g2, 0, none⟩ (.int .i64 0)).setCell ⟨g2, 1, none⟩ (.int .i64 0)).setCell ⟨g2, 2, none⟩ (.int .i64 0)).setCell ⟨g2, 3, none⟩ (.int .i64 0)).setCell ⟨g2, 4, none⟩ (.int .i64 0)) = W2 at M2 L3
  exact results_sc rfl tmps W2 ⟨g2, 0, none⟩ h2 _ (run_loadVar_row W2 g2 _ 43 #[.int .i64 0, .int .i64 0, .int .i64 0, .int .i64 0, .int .i64 0] (0, 0) _ M2 Try.underlying43 rfl (by kernel_rfl)) ⟨g3, 0, none⟩ h3 (.int .i64 220) (load_errno L3)

set_option maxHeartbeats 8000000 in
set_option maxRecDepth 100000 in
theorem wrr_bad (k : Nat) (A0 : Option Addr) (c0 : Nat) (l0 : List Int) (RES : Option (List (Int ⊕ ByteArray))) (w : World) (hr0 : Kd.C (Kd.int .u8) w A0 l0.length l0) (hc0 : l0.length ≤ c0) (h : wireRd k [false, false, false, false, false] l0 [] = some RES) (hq : RES = none) :
    Calls Try.prog 21 #[.slice A0 l0.length c0] w fun e w' => e = .returned (.tuple #[.agg #[.int .i64 0, .int .i64 0, .int .i64 0, .int .i64 0, .int .i64 0], .int .i64 220]) ∧ Below w.heap.size w w' := by
  have HB := Aside0.mk (Below.refl w.heap.size w)
  have HRES := Aside0.mk h
  have HQS := Aside0.mk hq
  have HC := Aside0.mk hr0
  have HCL := Aside0.mk hc0
  clear h hr0 hc0 hq
  have hmf : ∀ (fn : Fn) (first cap : Array Value) (w : World), (Instr.makeFunc fn first cap).run Try.prog w = .ok (.func fn first cap) w := fun _ _ _ _ => rfl
  go_enter_defers Try.func21, Try.ntmps21
  go_wp2_with (first | ((with_reducible refine gate_dst (N := 2) rfl ?_); (try (refine gate_guard (by rfl) ?_; dsimp only)); refine box_event ?hg (N := 2) ?hd (cs := #[.int .i64 0, .int .i64 0, .int .i64 0, .int .i64 0, .int .i64 0]) (t := 43) ?hr ?_; (case hd => rfl); (case hg => rfl); (case hr => first | (go_simp; done) | (go_simp; rfl)); intro g2 hg w1 hbox hb; have m0 := Aside0.mk (below_step (by repeat (first | (with_reducible first | exact HB.out | apply below_alloc | apply pw_below_drewN | apply below_drew1) | exact HB.out)) hb); have m1 := Aside0.mk hbox; have m2 := Aside0.mk ((by rw [hg]; exact (below_size (by repeat (first | (with_reducible first | exact HB.out | apply below_alloc | apply pw_below_drewN | apply below_drew1) | exact HB.out))) : w.heap.size ≤ g2)); clear HB ; have HB := m0; have B2 := m1; have G2 := m2; clear m0 m1 m2; clear hb hbox hg) | ((with_reducible refine gate_dst (N := 3) rfl ?_); (try (refine gate_guard (by rfl) ?_; dsimp only)); refine box_event ?hg (N := 3) ?hd (cs := #[.int .i64 0]) (t := 28) ?hr ?_; (case hd => rfl); (case hg => rfl); (case hr => first | (go_simp; done) | (go_simp; rfl)); intro g3 hg w2 hbox hb; have m0 := Aside0.mk (below_step (by repeat (first | (with_reducible first | exact HB.out | apply below_alloc | apply pw_below_drewN | apply below_drew1) | exact HB.out)) hb); have m1 := Aside0.mk hbox; have m2 := Aside0.mk ((by rw [hg]; exact (below_size (by repeat (first | (with_reducible first | exact HB.out | apply below_alloc | apply pw_below_drewN | apply below_drew1) | exact HB.out))) : w.heap.size ≤ g3)); have m3 := Aside0.mk (blk_below (g := g2) (o := (.cells #[.int .i64 0, .int .i64 0, .int .i64 0, .int .i64 0, .int .i64 0] 43 (0, 0))) (by (with_reducible repeat (first | refine blk_drewN ?_ _ | refine blk_drew ?_ | refine blk_alloc ?_ _)); exact B2.out) hb); have m4 := Aside0.mk ((by rw [hg]; exact (blk_lt (g := g2) (o := (.cells #[.int .i64 0, .int .i64 0, .int .i64 0, .int .i64 0, .int .i64 0] 43 (0, 0))) (by (with_reducible repeat (first | refine blk_drewN ?_ _ | refine blk_drew ?_ | refine blk_alloc ?_ _)); exact B2.out))) : g2 < g3); clear HB B2; have HB := m0; have B3 := m1; have G3 := m2; have B2 := m3; have Ng2g3 := m4; clear m0 m1 m2 m3 m4; clear hb hbox hg) | ((with_reducible refine gate_dst (N := 4) rfl ?_); (try (refine gate_guard (by rfl) ?_; dsimp only)); refine box_event ?hg (N := 4) ?hd (cs := #[.int .i64 0]) (t := 3) ?hr ?_; (case hd => rfl); (case hg => rfl); (case hr => first | (go_simp; done) | (go_simp; rfl)); intro g4 hg w3 hbox hb; have m0 := Aside0.mk (below_step (by repeat (first | (with_reducible first | exact HB.out | apply below_alloc | apply pw_below_drewN | apply below_drew1) | exact HB.out)) hb); have m1 := Aside0.mk hbox; have m2 := Aside0.mk ((by rw [hg]; exact (below_size (by repeat (first | (with_reducible first | exact HB.out | apply below_alloc | apply pw_below_drewN | apply below_drew1) | exact HB.out))) : w.heap.size ≤ g4)); have m3 := Aside0.mk (blk_below (g := g2) (o := (.cells #[.int .i64 0, .int .i64 0, .int .i64 0, .int .i64 0, .int .i64 0] 43 (0, 0))) (by (with_reducible repeat (first | refine blk_drewN ?_ _ | refine blk_drew ?_ | refine blk_alloc ?_ _)); exact B2.out) hb); have m4 := Aside0.mk ((by rw [hg]; exact (blk_lt (g := g2) (o := (.cells #[.int .i64 0, .int .i64 0, .int .i64 0, .int .i64 0, .int .i64 0] 43 (0, 0))) (by (with_reducible repeat (first | refine blk_drewN ?_ _ | refine blk_drew ?_ | refine blk_alloc ?_ _)); exact B2.out))) : g2 < g4); have m5 := Aside0.mk (blk_below (g := g3) (o := (.cells #[.int .i64 0] 28 (0, 0))) (by (with_reducible repeat (first | refine blk_drewN ?_ _ | refine blk_drew ?_ | refine blk_alloc ?_ _)); exact B3.out) hb); have m6 := Aside0.mk ((by rw [hg]; exact (blk_lt (g := g3) (o := (.cells #[.int .i64 0] 28 (0, 0))) (by (with_reducible repeat (first | refine blk_drewN ?_ _ | refine blk_drew ?_ | refine blk_alloc ?_ _)); exact B3.out))) : g3 < g4); clear HB B2 B3; have HB := m0; have B4 := m1; have G4 := m2; have B2 := m3; have Ng2g4 := m4; have B3 := m5; have Ng3g4 := m6; clear m0 m1 m2 m3 m4 m5 m6; clear hb hbox hg; have hcB40 := blk_cell B4.out 0; simp only [List.getElem?_toArray, List.getElem?_cons_zero, List.getElem?_cons_succ] at hcB40; have hfB40 := blk_frozen B4.out 0))
  have hB4 := blk_put (cs' := #[.int .i64 0]) B4.out 0 (.int .i64 0) rfl
  have m2 := blk_far (p := ⟨g4, 0, none⟩) B2.out (Nat.ne_of_lt Ng2g4.out) (.int .i64 0)
  have m3 := blk_far (p := ⟨g4, 0, none⟩) B3.out (Nat.ne_of_lt Ng3g4.out) (.int .i64 0)
  have m0 := Below.setCell (p := ⟨g4, 0, none⟩) HB.out G4.out (.int .i64 0)
  clear HB B2 B3 B4 hcB40 hfB40
  generalize w3.setCell ⟨g4, 0, none⟩ (.int .i64 0) = w6 at m0 m2 m3 hB4 ⊢
  refine (wnumbers g2 g4 w6).mono ?_
  rintro e w7 ⟨L, rfl, hb, hL, hlb⟩
  have HB := Aside0.mk (below_step m0 hb)
  have B2 := Aside0.mk (blk_below m2 hb)
  have B3 := Aside0.mk (blk_below m3 hb)
  have B4 := Aside0.mk (blk_below hB4 hb)
  have BL := Aside0.mk hlb
  clear m0 m2 m3 hB4 hb hL hlb
  go_wp2_with (fail)
  have hmem : ∀ f ∈ ((false, ⟨g4, 0, none⟩) :: fps 9 g2 [1, 2, 3, 4] : List (Bool × Addr)), f = (false, ⟨g4, 0, none⟩) ∨ ∃ o, 1 ≤ o ∧ o ≤ 4 ∧ f = (false, ⟨g2, o, none⟩) := by
    intro f hf
    simp [fps] at hf
    rcases hf with rfl | rfl | rfl | rfl | rfl
    · exact .inl rfl
    · exact .inr ⟨1, by omega, by omega, rfl⟩
    · exact .inr ⟨2, by omega, by omega, rfl⟩
    · exact .inr ⟨3, by omega, by omega, rfl⟩
    · exact .inr ⟨4, by omega, by omega, rfl⟩
  have HMEM := Aside0.mk hmem
  clear hmem
  refine (wread k L c0 A0 ((false, ⟨g4, 0, none⟩) :: fps 9 g2 [1, 2, 3, 4]) l0 RES w7 BL.out ?hf (Kd.C_below HC.out HB.out) HCL.out ?hA (by simp [fps]) ?hr).mono ?_
  case hr => exact HRES.out
  case hA =>
    rintro ad rfl hpos f hf
    have hlt := Kd.C_lt HC.out hpos (by decide)
    have g2' := G2.out
    have g4' := G4.out
    rcases HMEM.out f hf with rfl | ⟨o, _, _, rfl⟩
    · exact Nat.ne_of_lt (Nat.lt_of_lt_of_le hlt g4')
    · exact Nat.ne_of_lt (Nat.lt_of_lt_of_le hlt g2')
  case hf =>
    intro f hf
    rcases HMEM.out f hf with rfl | ⟨o, h1, h2, rfl⟩
    · exact ⟨⟨_, _, B4.out, by decide, by simp⟩, rfl⟩
    · exact ⟨⟨_, _, B2.out, by decide, by simp; omega⟩, rfl⟩
  rintro e w8 ⟨vs, hcase, hb⟩
  obtain ⟨hB8, hfar, hsz⟩ := read_after HB.out (below_size HB.out) hb (fun f hf => by
    rcases HMEM.out f hf with rfl | ⟨o, h1, h2, rfl⟩
    · exact ⟨G4.out, rfl⟩
    · exact ⟨G2.out, rfl⟩)
  have b3 := hfar g3 _ B3.out (fun f hf => by
    rcases HMEM.out f hf with rfl | ⟨o, h1, h2, rfl⟩
    · exact Ne.symm (Nat.ne_of_lt Ng3g4.out)
    · exact Nat.ne_of_lt Ng2g3.out)
  obtain rfl := HQS.out
  rcases hcase with ⟨hx, _⟩ | ⟨_, rfl⟩
  · cases hx
  obtain ⟨cs', b2, hs2⟩ := hsz g2 _ _ B2.out
  obtain ⟨z0, z1, z2, z3, z4, rfl⟩ := arr5 hs2
  refine doorReply_bad _ g2 g3 w.heap.size rfl rfl 0 z0 z1 z2 z3 z4 w w8 hB8 (below_size hB8) G2.out G3.out b2 b3 _ ?_
  intro w' hb
  exact ⟨rfl, hb⟩

set_option maxHeartbeats 8000000 in
set_option maxRecDepth 100000 in
theorem wrr_mid (k : Nat) (A0 : Option Addr) (c0 : Nat) (l0 : List Int) (RES : Option (List (Int ⊕ ByteArray))) (w : World) (hr0 : Kd.C (Kd.int .u8) w A0 l0.length l0) (hc0 : l0.length ≤ c0) (h : wireRd k [false, false, false, false, false] l0 [] = some RES) (x0 x1 x2 x3 x4 : Int) (hs : wire_sound.f x0 x1 x2 x3 x4 = some false) (hq : RES = some [.inl x0, .inl x1, .inl x2, .inl x3, .inl x4]) :
    Calls Try.prog 21 #[.slice A0 l0.length c0] w fun e w' => e = .returned (.tuple #[.agg #[.int .i64 0, .int .i64 0, .int .i64 0, .int .i64 0, .int .i64 0], .int .i64 220]) ∧ Below w.heap.size w w' := by
  have HB := Aside0.mk (Below.refl w.heap.size w)
  have HRES := Aside0.mk h
  have HQS := Aside0.mk hq
  have HC := Aside0.mk hr0
  have HCL := Aside0.mk hc0
  clear h hr0 hc0 hq
  have hmf : ∀ (fn : Fn) (first cap : Array Value) (w : World), (Instr.makeFunc fn first cap).run Try.prog w = .ok (.func fn first cap) w := fun _ _ _ _ => rfl
  go_enter_defers Try.func21, Try.ntmps21
  go_wp2_with (first | ((with_reducible refine gate_dst (N := 2) rfl ?_); (try (refine gate_guard (by rfl) ?_; dsimp only)); refine box_event ?hg (N := 2) ?hd (cs := #[.int .i64 0, .int .i64 0, .int .i64 0, .int .i64 0, .int .i64 0]) (t := 43) ?hr ?_; (case hd => rfl); (case hg => rfl); (case hr => first | (go_simp; done) | (go_simp; rfl)); intro g2 hg w1 hbox hb; have m0 := Aside0.mk (below_step (by repeat (first | (with_reducible first | exact HB.out | apply below_alloc | apply pw_below_drewN | apply below_drew1) | exact HB.out)) hb); have m1 := Aside0.mk hbox; have m2 := Aside0.mk ((by rw [hg]; exact (below_size (by repeat (first | (with_reducible first | exact HB.out | apply below_alloc | apply pw_below_drewN | apply below_drew1) | exact HB.out))) : w.heap.size ≤ g2)); clear HB ; have HB := m0; have B2 := m1; have G2 := m2; clear m0 m1 m2; clear hb hbox hg) | ((with_reducible refine gate_dst (N := 3) rfl ?_); (try (refine gate_guard (by rfl) ?_; dsimp only)); refine box_event ?hg (N := 3) ?hd (cs := #[.int .i64 0]) (t := 28) ?hr ?_; (case hd => rfl); (case hg => rfl); (case hr => first | (go_simp; done) | (go_simp; rfl)); intro g3 hg w2 hbox hb; have m0 := Aside0.mk (below_step (by repeat (first | (with_reducible first | exact HB.out | apply below_alloc | apply pw_below_drewN | apply below_drew1) | exact HB.out)) hb); have m1 := Aside0.mk hbox; have m2 := Aside0.mk ((by rw [hg]; exact (below_size (by repeat (first | (with_reducible first | exact HB.out | apply below_alloc | apply pw_below_drewN | apply below_drew1) | exact HB.out))) : w.heap.size ≤ g3)); have m3 := Aside0.mk (blk_below (g := g2) (o := (.cells #[.int .i64 0, .int .i64 0, .int .i64 0, .int .i64 0, .int .i64 0] 43 (0, 0))) (by (with_reducible repeat (first | refine blk_drewN ?_ _ | refine blk_drew ?_ | refine blk_alloc ?_ _)); exact B2.out) hb); have m4 := Aside0.mk ((by rw [hg]; exact (blk_lt (g := g2) (o := (.cells #[.int .i64 0, .int .i64 0, .int .i64 0, .int .i64 0, .int .i64 0] 43 (0, 0))) (by (with_reducible repeat (first | refine blk_drewN ?_ _ | refine blk_drew ?_ | refine blk_alloc ?_ _)); exact B2.out))) : g2 < g3); clear HB B2; have HB := m0; have B3 := m1; have G3 := m2; have B2 := m3; have Ng2g3 := m4; clear m0 m1 m2 m3 m4; clear hb hbox hg) | ((with_reducible refine gate_dst (N := 4) rfl ?_); (try (refine gate_guard (by rfl) ?_; dsimp only)); refine box_event ?hg (N := 4) ?hd (cs := #[.int .i64 0]) (t := 3) ?hr ?_; (case hd => rfl); (case hg => rfl); (case hr => first | (go_simp; done) | (go_simp; rfl)); intro g4 hg w3 hbox hb; have m0 := Aside0.mk (below_step (by repeat (first | (with_reducible first | exact HB.out | apply below_alloc | apply pw_below_drewN | apply below_drew1) | exact HB.out)) hb); have m1 := Aside0.mk hbox; have m2 := Aside0.mk ((by rw [hg]; exact (below_size (by repeat (first | (with_reducible first | exact HB.out | apply below_alloc | apply pw_below_drewN | apply below_drew1) | exact HB.out))) : w.heap.size ≤ g4)); have m3 := Aside0.mk (blk_below (g := g2) (o := (.cells #[.int .i64 0, .int .i64 0, .int .i64 0, .int .i64 0, .int .i64 0] 43 (0, 0))) (by (with_reducible repeat (first | refine blk_drewN ?_ _ | refine blk_drew ?_ | refine blk_alloc ?_ _)); exact B2.out) hb); have m4 := Aside0.mk ((by rw [hg]; exact (blk_lt (g := g2) (o := (.cells #[.int .i64 0, .int .i64 0, .int .i64 0, .int .i64 0, .int .i64 0] 43 (0, 0))) (by (with_reducible repeat (first | refine blk_drewN ?_ _ | refine blk_drew ?_ | refine blk_alloc ?_ _)); exact B2.out))) : g2 < g4); have m5 := Aside0.mk (blk_below (g := g3) (o := (.cells #[.int .i64 0] 28 (0, 0))) (by (with_reducible repeat (first | refine blk_drewN ?_ _ | refine blk_drew ?_ | refine blk_alloc ?_ _)); exact B3.out) hb); have m6 := Aside0.mk ((by rw [hg]; exact (blk_lt (g := g3) (o := (.cells #[.int .i64 0] 28 (0, 0))) (by (with_reducible repeat (first | refine blk_drewN ?_ _ | refine blk_drew ?_ | refine blk_alloc ?_ _)); exact B3.out))) : g3 < g4); clear HB B2 B3; have HB := m0; have B4 := m1; have G4 := m2; have B2 := m3; have Ng2g4 := m4; have B3 := m5; have Ng3g4 := m6; clear m0 m1 m2 m3 m4 m5 m6; clear hb hbox hg; have hcB40 := blk_cell B4.out 0; simp only [List.getElem?_toArray, List.getElem?_cons_zero, List.getElem?_cons_succ] at hcB40; have hfB40 := blk_frozen B4.out 0))
  have hB4 := blk_put (cs' := #[.int .i64 0]) B4.out 0 (.int .i64 0) rfl
  have m2 := blk_far (p := ⟨g4, 0, none⟩) B2.out (Nat.ne_of_lt Ng2g4.out) (.int .i64 0)
  have m3 := blk_far (p := ⟨g4, 0, none⟩) B3.out (Nat.ne_of_lt Ng3g4.out) (.int .i64 0)
  have m0 := Below.setCell (p := ⟨g4, 0, none⟩) HB.out G4.out (.int .i64 0)
  clear HB B2 B3 B4 hcB40 hfB40
  generalize w3.setCell ⟨g4, 0, none⟩ (.int .i64 0) = w6 at m0 m2 m3 hB4 ⊢
  refine (wnumbers g2 g4 w6).mono ?_
  rintro e w7 ⟨L, rfl, hb, hL, hlb⟩
  have HB := Aside0.mk (below_step m0 hb)
  have B2 := Aside0.mk (blk_below m2 hb)
  have B3 := Aside0.mk (blk_below m3 hb)
  have B4 := Aside0.mk (blk_below hB4 hb)
  have BL := Aside0.mk hlb
  clear m0 m2 m3 hB4 hb hL hlb
  go_wp2_with (fail)
  have hmem : ∀ f ∈ ((false, ⟨g4, 0, none⟩) :: fps 9 g2 [1, 2, 3, 4] : List (Bool × Addr)), f = (false, ⟨g4, 0, none⟩) ∨ ∃ o, 1 ≤ o ∧ o ≤ 4 ∧ f = (false, ⟨g2, o, none⟩) := by
    intro f hf
    simp [fps] at hf
    rcases hf with rfl | rfl | rfl | rfl | rfl
    · exact .inl rfl
    · exact .inr ⟨1, by omega, by omega, rfl⟩
    · exact .inr ⟨2, by omega, by omega, rfl⟩
    · exact .inr ⟨3, by omega, by omega, rfl⟩
    · exact .inr ⟨4, by omega, by omega, rfl⟩
  have HMEM := Aside0.mk hmem
  clear hmem
  refine (wread k L c0 A0 ((false, ⟨g4, 0, none⟩) :: fps 9 g2 [1, 2, 3, 4]) l0 RES w7 BL.out ?hf (Kd.C_below HC.out HB.out) HCL.out ?hA (by simp [fps]) ?hr).mono ?_
  case hr => exact HRES.out
  case hA =>
    rintro ad rfl hpos f hf
    have hlt := Kd.C_lt HC.out hpos (by decide)
    have g2' := G2.out
    have g4' := G4.out
    rcases HMEM.out f hf with rfl | ⟨o, _, _, rfl⟩
    · exact Nat.ne_of_lt (Nat.lt_of_lt_of_le hlt g4')
    · exact Nat.ne_of_lt (Nat.lt_of_lt_of_le hlt g2')
  case hf =>
    intro f hf
    rcases HMEM.out f hf with rfl | ⟨o, h1, h2, rfl⟩
    · exact ⟨⟨_, _, B4.out, by decide, by simp⟩, rfl⟩
    · exact ⟨⟨_, _, B2.out, by decide, by simp; omega⟩, rfl⟩
  rintro e w8 ⟨vs, hcase, hb⟩
  obtain ⟨hB8, hfar, hsz⟩ := read_after HB.out (below_size HB.out) hb (fun f hf => by
    rcases HMEM.out f hf with rfl | ⟨o, h1, h2, rfl⟩
    · exact ⟨G4.out, rfl⟩
    · exact ⟨G2.out, rfl⟩)
  have b3 := hfar g3 _ B3.out (fun f hf => by
    rcases HMEM.out f hf with rfl | ⟨o, h1, h2, rfl⟩
    · exact Ne.symm (Nat.ne_of_lt Ng3g4.out)
    · exact Nat.ne_of_lt Ng2g3.out)
  obtain rfl := HQS.out
  rcases hcase with ⟨hx, rfl, hvl⟩ | ⟨hx, _⟩
  rotate_left
  · cases hx
  obtain rfl := Option.some.inj hx
  have hb2 : w8.heap[g2]? = some (.cells #[.int .i64 0, .int .i64 x1, .int .i64 x2, .int .i64 x3, .int .i64 x4] 43 (0, 0)) := by
    rw [hb.block g2 (blk_lt B2.out)]
    have n24 := Nat.ne_of_lt Ng2g4.out
    exact blk_put (blk_put (blk_put (blk_put (blk_far (p := ⟨g4, 0, none⟩) B2.out n24 (.int .i64 x0)) 1 (.int .i64 x1) rfl) 2 (.int .i64 x2) rfl) 3 (.int .i64 x3) rfl) 4 (.int .i64 x4) rfl
  have hb4 : w8.heap[g4]? = some (.cells #[.int .i64 x0] 3 (0, 0)) := by
    rw [hb.block g4 (blk_lt B4.out)]
    have n24 := Nat.ne_of_gt Ng2g4.out
    exact blk_far (p := ⟨g2, 4, none⟩) (blk_far (p := ⟨g2, 3, none⟩) (blk_far (p := ⟨g2, 2, none⟩) (blk_far (p := ⟨g2, 1, none⟩) (blk_put (cs' := #[.int .i64 x0]) B4.out 0 (.int .i64 x0) rfl) n24 _) n24 _) n24 _) n24 _
  have N24 := Aside0.mk (Nat.ne_of_lt Ng2g4.out)
  have N23 := Aside0.mk (Nat.ne_of_lt Ng2g3.out)
  clear HB B2 B3 B4 BL HRES HC HCL hb hfar hsz hx hvl
  have HB := Aside0.mk hB8
  have B2 := Aside0.mk hb2
  have B3 := Aside0.mk b3
  have hc4 := blk_cell hb4 0
  simp only [List.getElem?_toArray, List.getElem?_cons_zero, List.getElem?_cons_succ] at hc4
  have hcB20 := blk_cell B2.out 0
  simp only [List.getElem?_toArray, List.getElem?_cons_zero, List.getElem?_cons_succ] at hcB20
  have hfB20 := blk_frozen B2.out 0
  have hcB21 := blk_cell B2.out 1
  simp only [List.getElem?_toArray, List.getElem?_cons_zero, List.getElem?_cons_succ] at hcB21
  have hfB21 := blk_frozen B2.out 1
  have hcB22 := blk_cell B2.out 2
  simp only [List.getElem?_toArray, List.getElem?_cons_zero, List.getElem?_cons_succ] at hcB22
  have hfB22 := blk_frozen B2.out 2
  have hcB23 := blk_cell B2.out 3
  simp only [List.getElem?_toArray, List.getElem?_cons_zero, List.getElem?_cons_succ] at hcB23
  have hfB23 := blk_frozen B2.out 3
  have hcB24 := blk_cell B2.out 4
  simp only [List.getElem?_toArray, List.getElem?_cons_zero, List.getElem?_cons_succ] at hcB24
  have hfB24 := blk_frozen B2.out 4
  clear hB8 hb2 hb4 b3
  go_wp2_with (fail)
  have m2 := blk_put (cs' := #[.int .i64 x0, .int .i64 x1, .int .i64 x2, .int .i64 x3, .int .i64 x4]) B2.out 0 (.int .i64 x0) rfl
  have m3 := blk_far (p := ⟨g2, 0, none⟩) B3.out (Ne.symm N23.out) (.int .i64 x0)
  have m0 := Below.setCell (p := ⟨g2, 0, none⟩) HB.out G2.out (.int .i64 x0)
  clear HB B2 B3 hc4 hcB20 hfB20 hcB21 hfB21 hcB22 hfB22 hcB23 hfB23 hcB24 hfB24
  generalize w8.setCell ⟨g2, 0, none⟩ (.int .i64 x0) = w9 at m0 m2 m3 ⊢
  refine (wire_sound.calls x0 x1 x2 x3 x4 false _ hs).mono ?_
  rintro e w10 ⟨rfl, hb⟩
  have HB := Aside0.mk (below_step m0 hb)
  have B2 := Aside0.mk (blk_below m2 hb)
  have B3 := Aside0.mk (blk_below m3 hb)
  clear m0 m2 m3 hb
  go_wp2_with (first | ((go_at_call 27); (with_reducible refine (must_bad _).mono ?_); rintro e wm ⟨rfl, rfl⟩))
  refine doorReply_bad _ g2 g3 w.heap.size rfl rfl 0 _ _ _ _ _ w _ HB.out (below_size HB.out) G2.out G3.out B2.out B3.out _ ?_
  intro w' hb
  exact ⟨rfl, hb⟩

set_option maxHeartbeats 8000000 in
set_option maxRecDepth 100000 in
theorem wrr_ok (k : Nat) (A0 : Option Addr) (c0 : Nat) (l0 : List Int) (RES : Option (List (Int ⊕ ByteArray))) (w : World) (hr0 : Kd.C (Kd.int .u8) w A0 l0.length l0) (hc0 : l0.length ≤ c0) (h : wireRd k [false, false, false, false, false] l0 [] = some RES) (x0 x1 x2 x3 x4 : Int) (hs : wire_sound.f x0 x1 x2 x3 x4 = some true) (hq : RES = some [.inl x0, .inl x1, .inl x2, .inl x3, .inl x4]) :
    Calls Try.prog 21 #[.slice A0 l0.length c0] w fun e w' => e = .returned (.tuple #[.agg #[.int .i64 x0, .int .i64 x1, .int .i64 x2, .int .i64 x3, .int .i64 x4], .int .i64 0]) ∧ Below w.heap.size w w' := by
  have HB := Aside0.mk (Below.refl w.heap.size w)
  have HRES := Aside0.mk h
  have HQS := Aside0.mk hq
  have HC := Aside0.mk hr0
  have HCL := Aside0.mk hc0
  clear h hr0 hc0 hq
  have hmf : ∀ (fn : Fn) (first cap : Array Value) (w : World), (Instr.makeFunc fn first cap).run Try.prog w = .ok (.func fn first cap) w := fun _ _ _ _ => rfl
  go_enter_defers Try.func21, Try.ntmps21
  go_wp2_with (first | ((with_reducible refine gate_dst (N := 2) rfl ?_); (try (refine gate_guard (by rfl) ?_; dsimp only)); refine box_event ?hg (N := 2) ?hd (cs := #[.int .i64 0, .int .i64 0, .int .i64 0, .int .i64 0, .int .i64 0]) (t := 43) ?hr ?_; (case hd => rfl); (case hg => rfl); (case hr => first | (go_simp; done) | (go_simp; rfl)); intro g2 hg w1 hbox hb; have m0 := Aside0.mk (below_step (by repeat (first | (with_reducible first | exact HB.out | apply below_alloc | apply pw_below_drewN | apply below_drew1) | exact HB.out)) hb); have m1 := Aside0.mk hbox; have m2 := Aside0.mk ((by rw [hg]; exact (below_size (by repeat (first | (with_reducible first | exact HB.out | apply below_alloc | apply pw_below_drewN | apply below_drew1) | exact HB.out))) : w.heap.size ≤ g2)); clear HB ; have HB := m0; have B2 := m1; have G2 := m2; clear m0 m1 m2; clear hb hbox hg) | ((with_reducible refine gate_dst (N := 3) rfl ?_); (try (refine gate_guard (by rfl) ?_; dsimp only)); refine box_event ?hg (N := 3) ?hd (cs := #[.int .i64 0]) (t := 28) ?hr ?_; (case hd => rfl); (case hg => rfl); (case hr => first | (go_simp; done) | (go_simp; rfl)); intro g3 hg w2 hbox hb; have m0 := Aside0.mk (below_step (by repeat (first | (with_reducible first | exact HB.out | apply below_alloc | apply pw_below_drewN | apply below_drew1) | exact HB.out)) hb); have m1 := Aside0.mk hbox; have m2 := Aside0.mk ((by rw [hg]; exact (below_size (by repeat (first | (with_reducible first | exact HB.out | apply below_alloc | apply pw_below_drewN | apply below_drew1) | exact HB.out))) : w.heap.size ≤ g3)); have m3 := Aside0.mk (blk_below (g := g2) (o := (.cells #[.int .i64 0, .int .i64 0, .int .i64 0, .int .i64 0, .int .i64 0] 43 (0, 0))) (by (with_reducible repeat (first | refine blk_drewN ?_ _ | refine blk_drew ?_ | refine blk_alloc ?_ _)); exact B2.out) hb); have m4 := Aside0.mk ((by rw [hg]; exact (blk_lt (g := g2) (o := (.cells #[.int .i64 0, .int .i64 0, .int .i64 0, .int .i64 0, .int .i64 0] 43 (0, 0))) (by (with_reducible repeat (first | refine blk_drewN ?_ _ | refine blk_drew ?_ | refine blk_alloc ?_ _)); exact B2.out))) : g2 < g3); clear HB B2; have HB := m0; have B3 := m1; have G3 := m2; have B2 := m3; have Ng2g3 := m4; clear m0 m1 m2 m3 m4; clear hb hbox hg) | ((with_reducible refine gate_dst (N := 4) rfl ?_); (try (refine gate_guard (by rfl) ?_; dsimp only)); refine box_event ?hg (N := 4) ?hd (cs := #[.int .i64 0]) (t := 3) ?hr ?_; (case hd => rfl); (case hg => rfl); (case hr => first | (go_simp; done) | (go_simp; rfl)); intro g4 hg w3 hbox hb; have m0 := Aside0.mk (below_step (by repeat (first | (with_reducible first | exact HB.out | apply below_alloc | apply pw_below_drewN | apply below_drew1) | exact HB.out)) hb); have m1 := Aside0.mk hbox; have m2 := Aside0.mk ((by rw [hg]; exact (below_size (by repeat (first | (with_reducible first | exact HB.out | apply below_alloc | apply pw_below_drewN | apply below_drew1) | exact HB.out))) : w.heap.size ≤ g4)); have m3 := Aside0.mk (blk_below (g := g2) (o := (.cells #[.int .i64 0, .int .i64 0, .int .i64 0, .int .i64 0, .int .i64 0] 43 (0, 0))) (by (with_reducible repeat (first | refine blk_drewN ?_ _ | refine blk_drew ?_ | refine blk_alloc ?_ _)); exact B2.out) hb); have m4 := Aside0.mk ((by rw [hg]; exact (blk_lt (g := g2) (o := (.cells #[.int .i64 0, .int .i64 0, .int .i64 0, .int .i64 0, .int .i64 0] 43 (0, 0))) (by (with_reducible repeat (first | refine blk_drewN ?_ _ | refine blk_drew ?_ | refine blk_alloc ?_ _)); exact B2.out))) : g2 < g4); have m5 := Aside0.mk (blk_below (g := g3) (o := (.cells #[.int .i64 0] 28 (0, 0))) (by (with_reducible repeat (first | refine blk_drewN ?_ _ | refine blk_drew ?_ | refine blk_alloc ?_ _)); exact B3.out) hb); have m6 := Aside0.mk ((by rw [hg]; exact (blk_lt (g := g3) (o := (.cells #[.int .i64 0] 28 (0, 0))) (by (with_reducible repeat (first | refine blk_drewN ?_ _ | refine blk_drew ?_ | refine blk_alloc ?_ _)); exact B3.out))) : g3 < g4); clear HB B2 B3; have HB := m0; have B4 := m1; have G4 := m2; have B2 := m3; have Ng2g4 := m4; have B3 := m5; have Ng3g4 := m6; clear m0 m1 m2 m3 m4 m5 m6; clear hb hbox hg; have hcB40 := blk_cell B4.out 0; simp only [List.getElem?_toArray, List.getElem?_cons_zero, List.getElem?_cons_succ] at hcB40; have hfB40 := blk_frozen B4.out 0))
  have hB4 := blk_put (cs' := #[.int .i64 0]) B4.out 0 (.int .i64 0) rfl
  have m2 := blk_far (p := ⟨g4, 0, none⟩) B2.out (Nat.ne_of_lt Ng2g4.out) (.int .i64 0)
  have m3 := blk_far (p := ⟨g4, 0, none⟩) B3.out (Nat.ne_of_lt Ng3g4.out) (.int .i64 0)
  have m0 := Below.setCell (p := ⟨g4, 0, none⟩) HB.out G4.out (.int .i64 0)
  clear HB B2 B3 B4 hcB40 hfB40
  generalize w3.setCell ⟨g4, 0, none⟩ (.int .i64 0) = w6 at m0 m2 m3 hB4 ⊢
  refine (wnumbers g2 g4 w6).mono ?_
  rintro e w7 ⟨L, rfl, hb, hL, hlb⟩
  have HB := Aside0.mk (below_step m0 hb)
  have B2 := Aside0.mk (blk_below m2 hb)
  have B3 := Aside0.mk (blk_below m3 hb)
  have B4 := Aside0.mk (blk_below hB4 hb)
  have BL := Aside0.mk hlb
  clear m0 m2 m3 hB4 hb hL hlb
  go_wp2_with (fail)
  have hmem : ∀ f ∈ ((false, ⟨g4, 0, none⟩) :: fps 9 g2 [1, 2, 3, 4] : List (Bool × Addr)), f = (false, ⟨g4, 0, none⟩) ∨ ∃ o, 1 ≤ o ∧ o ≤ 4 ∧ f = (false, ⟨g2, o, none⟩) := by
    intro f hf
    simp [fps] at hf
    rcases hf with rfl | rfl | rfl | rfl | rfl
    · exact .inl rfl
    · exact .inr ⟨1, by omega, by omega, rfl⟩
    · exact .inr ⟨2, by omega, by omega, rfl⟩
    · exact .inr ⟨3, by omega, by omega, rfl⟩
    · exact .inr ⟨4, by omega, by omega, rfl⟩
  have HMEM := Aside0.mk hmem
  clear hmem
  refine (wread k L c0 A0 ((false, ⟨g4, 0, none⟩) :: fps 9 g2 [1, 2, 3, 4]) l0 RES w7 BL.out ?hf (Kd.C_below HC.out HB.out) HCL.out ?hA (by simp [fps]) ?hr).mono ?_
  case hr => exact HRES.out
  case hA =>
    rintro ad rfl hpos f hf
    have hlt := Kd.C_lt HC.out hpos (by decide)
    have g2' := G2.out
    have g4' := G4.out
    rcases HMEM.out f hf with rfl | ⟨o, _, _, rfl⟩
    · exact Nat.ne_of_lt (Nat.lt_of_lt_of_le hlt g4')
    · exact Nat.ne_of_lt (Nat.lt_of_lt_of_le hlt g2')
  case hf =>
    intro f hf
    rcases HMEM.out f hf with rfl | ⟨o, h1, h2, rfl⟩
    · exact ⟨⟨_, _, B4.out, by decide, by simp⟩, rfl⟩
    · exact ⟨⟨_, _, B2.out, by decide, by simp; omega⟩, rfl⟩
  rintro e w8 ⟨vs, hcase, hb⟩
  obtain ⟨hB8, hfar, hsz⟩ := read_after HB.out (below_size HB.out) hb (fun f hf => by
    rcases HMEM.out f hf with rfl | ⟨o, h1, h2, rfl⟩
    · exact ⟨G4.out, rfl⟩
    · exact ⟨G2.out, rfl⟩)
  have b3 := hfar g3 _ B3.out (fun f hf => by
    rcases HMEM.out f hf with rfl | ⟨o, h1, h2, rfl⟩
    · exact Ne.symm (Nat.ne_of_lt Ng3g4.out)
    · exact Nat.ne_of_lt Ng2g3.out)
  obtain rfl := HQS.out
  rcases hcase with ⟨hx, rfl, hvl⟩ | ⟨hx, _⟩
  rotate_left
  · cases hx
  obtain rfl := Option.some.inj hx
  have hb2 : w8.heap[g2]? = some (.cells #[.int .i64 0, .int .i64 x1, .int .i64 x2, .int .i64 x3, .int .i64 x4] 43 (0, 0)) := by
    rw [hb.block g2 (blk_lt B2.out)]
    have n24 := Nat.ne_of_lt Ng2g4.out
    exact blk_put (blk_put (blk_put (blk_put (blk_far (p := ⟨g4, 0, none⟩) B2.out n24 (.int .i64 x0)) 1 (.int .i64 x1) rfl) 2 (.int .i64 x2) rfl) 3 (.int .i64 x3) rfl) 4 (.int .i64 x4) rfl
  have hb4 : w8.heap[g4]? = some (.cells #[.int .i64 x0] 3 (0, 0)) := by
    rw [hb.block g4 (blk_lt B4.out)]
    have n24 := Nat.ne_of_gt Ng2g4.out
    exact blk_far (p := ⟨g2, 4, none⟩) (blk_far (p := ⟨g2, 3, none⟩) (blk_far (p := ⟨g2, 2, none⟩) (blk_far (p := ⟨g2, 1, none⟩) (blk_put (cs' := #[.int .i64 x0]) B4.out 0 (.int .i64 x0) rfl) n24 _) n24 _) n24 _) n24 _
  have N24 := Aside0.mk (Nat.ne_of_lt Ng2g4.out)
  have N23 := Aside0.mk (Nat.ne_of_lt Ng2g3.out)
  clear HB B2 B3 B4 BL HRES HC HCL hb hfar hsz hx hvl
  have HB := Aside0.mk hB8
  have B2 := Aside0.mk hb2
  have B3 := Aside0.mk b3
  have hc4 := blk_cell hb4 0
  simp only [List.getElem?_toArray, List.getElem?_cons_zero, List.getElem?_cons_succ] at hc4
  have hcB20 := blk_cell B2.out 0
  simp only [List.getElem?_toArray, List.getElem?_cons_zero, List.getElem?_cons_succ] at hcB20
  have hfB20 := blk_frozen B2.out 0
  have hcB21 := blk_cell B2.out 1
  simp only [List.getElem?_toArray, List.getElem?_cons_zero, List.getElem?_cons_succ] at hcB21
  have hfB21 := blk_frozen B2.out 1
  have hcB22 := blk_cell B2.out 2
  simp only [List.getElem?_toArray, List.getElem?_cons_zero, List.getElem?_cons_succ] at hcB22
  have hfB22 := blk_frozen B2.out 2
  have hcB23 := blk_cell B2.out 3
  simp only [List.getElem?_toArray, List.getElem?_cons_zero, List.getElem?_cons_succ] at hcB23
  have hfB23 := blk_frozen B2.out 3
  have hcB24 := blk_cell B2.out 4
  simp only [List.getElem?_toArray, List.getElem?_cons_zero, List.getElem?_cons_succ] at hcB24
  have hfB24 := blk_frozen B2.out 4
  clear hB8 hb2 hb4 b3
  go_wp2_with (fail)
  have m2 := blk_put (cs' := #[.int .i64 x0, .int .i64 x1, .int .i64 x2, .int .i64 x3, .int .i64 x4]) B2.out 0 (.int .i64 x0) rfl
  have m3 := blk_far (p := ⟨g2, 0, none⟩) B3.out (Ne.symm N23.out) (.int .i64 x0)
  have m0 := Below.setCell (p := ⟨g2, 0, none⟩) HB.out G2.out (.int .i64 x0)
  clear HB B2 B3 hc4 hcB20 hfB20 hcB21 hfB21 hcB22 hfB22 hcB23 hfB23 hcB24 hfB24
  generalize w8.setCell ⟨g2, 0, none⟩ (.int .i64 x0) = w9 at m0 m2 m3 ⊢
  refine (wire_sound.calls x0 x1 x2 x3 x4 true _ hs).mono ?_
  rintro e w10 ⟨rfl, hb⟩
  have HB := Aside0.mk (below_step m0 hb)
  have B2 := Aside0.mk (blk_below m2 hb)
  have B3 := Aside0.mk (blk_below m3 hb)
  clear m0 m2 m3 hb
  have hcB20 := blk_cell B2.out 0
  simp only [List.getElem?_toArray, List.getElem?_cons_zero, List.getElem?_cons_succ] at hcB20
  have hfB20 := blk_frozen B2.out 0
  have hcB21 := blk_cell B2.out 1
  simp only [List.getElem?_toArray, List.getElem?_cons_zero, List.getElem?_cons_succ] at hcB21
  have hfB21 := blk_frozen B2.out 1
  have hcB22 := blk_cell B2.out 2
  simp only [List.getElem?_toArray, List.getElem?_cons_zero, List.getElem?_cons_succ] at hcB22
  have hfB22 := blk_frozen B2.out 2
  have hcB23 := blk_cell B2.out 3
  simp only [List.getElem?_toArray, List.getElem?_cons_zero, List.getElem?_cons_succ] at hcB23
  have hfB23 := blk_frozen B2.out 3
  have hcB24 := blk_cell B2.out 4
  simp only [List.getElem?_toArray, List.getElem?_cons_zero, List.getElem?_cons_succ] at hcB24
  have hfB24 := blk_frozen B2.out 4
  have hc3 := blk_cell B3.out 0
  have hf3 := blk_frozen B3.out 0
  simp only [List.getElem?_toArray, List.getElem?_cons_zero, List.getElem?_cons_succ] at hc3
  have hne1 : ¬ g2 = g3 := N23.out
  have hne2 : ¬ g3 = g2 := fun e => N23.out e.symm
  go_wp2_with (first | ((go_at_call 27); (with_reducible refine (must_ok _).mono ?_); rintro e wm ⟨rfl, rfl⟩))
  have j2 := blk_far (p := ⟨g3, 0, none⟩) (blk_put (cs' := #[.int .i64 x0, .int .i64 x1, .int .i64 x2, .int .i64 x3, .int .i64 x4]) (blk_put (cs' := #[.int .i64 x0, .int .i64 x1, .int .i64 x2, .int .i64 x3, .int .i64 x4]) (blk_put (cs' := #[.int .i64 x0, .int .i64 x1, .int .i64 x2, .int .i64 x3, .int .i64 x4]) (blk_put (cs' := #[.int .i64 x0, .int .i64 x1, .int .i64 x2, .int .i64 x3, .int .i64 x4]) (blk_put (cs' := #[.int .i64 x0, .int .i64 x1, .int .i64 x2, .int .i64 x3, .int .i64 x4]) B2.out 0 (.int .i64 x0) rfl) 1 (.int .i64 x1) rfl) 2 (.int .i64 x2) rfl) 3 (.int .i64 x3) rfl) 4 (.int .i64 x4) rfl) N23.out (.int .i64 0)
  have j3 := blk_put (cs' := #[.int .i64 0]) (blk_far (p := ⟨g2, 4, none⟩) (blk_far (p := ⟨g2, 3, none⟩) (blk_far (p := ⟨g2, 2, none⟩) (blk_far (p := ⟨g2, 1, none⟩) (blk_far (p := ⟨g2, 0, none⟩) B3.out (Ne.symm N23.out) (.int .i64 x0)) (Ne.symm N23.out) (.int .i64 x1)) (Ne.symm N23.out) (.int .i64 x2)) (Ne.symm N23.out) (.int .i64 x3)) (Ne.symm N23.out) (.int .i64 x4)) 0 (.int .i64 0) rfl
  have jB := (((((HB.out.setCell (p := ⟨g2, 0, none⟩) G2.out (.int .i64 x0)).setCell (p := ⟨g2, 1, none⟩) G2.out (.int .i64 x1)).setCell (p := ⟨g2, 2, none⟩) G2.out (.int .i64 x2)).setCell (p := ⟨g2, 3, none⟩) G2.out (.int .i64 x3)).setCell (p := ⟨g2, 4, none⟩) G2.out (.int .i64 x4)).setCell (p := ⟨g3, 0, none⟩) G3.out (.int .i64 0)
  refine doorB_ok 46 clReply_ok (fun _ _ _ => by simp [go_sem]) Try.f21 _ g2 g3 _ j3 _ (.tuple #[.agg #[.int .i64 x0, .int .i64 x1, .int .i64 x2, .int .i64 x3, .int .i64 x4], .int .i64 0]) ?_ ⟨rfl, jB⟩
  exact results_sc rfl _ _ ⟨g2, 0, none⟩ rfl _ (run_loadVar_row _ g2 _ 43 #[.int .i64 x0, .int .i64 x1, .int .i64 x2, .int .i64 x3, .int .i64 x4] (0, 0) _ j2 Try.underlying43 rfl (by kernel_rfl)) ⟨g3, 0, none⟩ rfl (.int .i64 0) (load_errno j3)


def nth5 (vs : List (Int ⊕ ByteArray)) (i : Nat) : Int := match vs[i]? with | some (.inl n) => n | _ => 0
def wire_ReadReply.f (k : Nat) (l0 : List Int) : Option (Int × Int × Int × Int × Int × Int) :=
  (wireRd k [false, false, false, false, false] l0 []).bind fun x => match x with
    | none => some (0, 0, 0, 0, 0, 220)
    | some vs => (wire_sound.f (nth5 vs 0) (nth5 vs 1) (nth5 vs 2) (nth5 vs 3) (nth5 vs 4)).bind fun q => if q = true then some (nth5 vs 0, nth5 vs 1, nth5 vs 2, nth5 vs 3, nth5 vs 4, 0) else some (0, 0, 0, 0, 0, 220)
theorem wire_ReadReply.mono : ∀ l0 k, LeO (wire_ReadReply.f k l0) (wire_ReadReply.f (k + 1) l0) := fun _ k => LeO.bind (wireRd_mono _ _ _ k) (fun _ => LeO.refl _)
theorem len5 {α : Type} {l : List α} (h : l.length = 5) : ∃ a b c d e, l = [a, b, c, d, e] := by match l, h with | [a, b, c, d, e], _ => exact ⟨a, b, c, d, e, rfl⟩
theorem nums5 {vs : List (Int ⊕ ByteArray)} (h : vs.map isTx = [false, false, false, false, false]) : ∃ x0 x1 x2 x3 x4, vs = [.inl x0, .inl x1, .inl x2, .inl x3, .inl x4] := by
  obtain ⟨v0, v1, v2, v3, v4, rfl⟩ := len5 (by simpa using congrArg List.length h)
  simp at h
  obtain ⟨h0, h1, h2, h3, h4⟩ := h
  cases v0 <;> cases v1 <;> cases v2 <;> cases v3 <;> cases v4 <;> simp [isTx] at h0 h1 h2 h3 h4
  exact ⟨_, _, _, _, _, rfl⟩
theorem wire_ReadReply.calls (k : Nat) (A0 : Option Addr) (c0 : Nat) (l0 : List Int) (r1 r2 r3 r4 r5 r6 : Int) (w : World) (hr0 : Kd.C (Kd.int .u8) w A0 l0.length l0) (hc0 : l0.length ≤ c0) (h : wire_ReadReply.f k l0 = some (r1, r2, r3, r4, r5, r6)) :
    Calls Try.prog 21 #[.slice A0 l0.length c0] w fun e w' => e = .returned (.tuple #[.agg #[.int .i64 r1, .int .i64 r2, .int .i64 r3, .int .i64 r4, .int .i64 r5], .int .i64 r6]) ∧ Below w.heap.size w w' := by
  unfold wire_ReadReply.f at h
  obtain ⟨x, hx, h⟩ := Option.bind_eq_some_iff.mp h
  cases x with
  | none =>
    simp only [Option.some.injEq, Prod.mk.injEq] at h
    obtain ⟨rfl, rfl, rfl, rfl, rfl, rfl⟩ := h
    exact wrr_bad k A0 c0 l0 none w hr0 hc0 hx rfl
  | some vs =>
    obtain ⟨us, e1, e2⟩ := wireRd_kinds k _ _ _ _ hx
    rw [List.nil_append] at e1
    subst e1
    obtain ⟨x0, x1, x2, x3, x4, rfl⟩ := nums5 e2
    dsimp only [nth5, List.getElem?_cons_zero, List.getElem?_cons_succ] at h
    obtain ⟨q, hq, h⟩ := Option.bind_eq_some_iff.mp h
    cases q with
    | false =>
      rw [if_neg (by decide)] at h
      simp only [Option.some.injEq, Prod.mk.injEq] at h
      obtain ⟨rfl, rfl, rfl, rfl, rfl, rfl⟩ := h
      exact wrr_mid k A0 c0 l0 _ w hr0 hc0 hx x0 x1 x2 x3 x4 hq rfl
    | true =>
      rw [if_pos rfl] at h
      simp only [Option.some.injEq, Prod.mk.injEq] at h
      obtain ⟨rfl, rfl, rfl, rfl, rfl, rfl⟩ := h
      exact wrr_ok k A0 c0 l0 _ w hr0 hc0 hx x0 x1 x2 x3 x4 hq rfl

/-! ### lienref22_text: function 31 -/
def lienref22_text.f (a0 : ByteArray) : Option (Bool × Int × ByteArray) := some (true, 0, a0)
set_option maxHeartbeats 8000000 in
set_option maxRecDepth 100000 in
theorem lienref22_text.calls (a0 : ByteArray) (r1 : Bool) (r2 : Int) (r3 : ByteArray) (w : World) (h : lienref22_text.f a0 = some (r1, r2, r3)) :
    Calls Try.prog 31 #[.string a0] w fun e w' => e = .returned (.agg #[.bool r1, .int .i64 r2, .string r3]) ∧ Below w.heap.size w w' := by
  have hu62 := Try.underlying62
  have HB := Aside0.mk (Below.refl w.heap.size w)
  have H : (some (true, 0, a0)) = some (r1, r2, r3) := h
  clear h
  simp only [Option.some.injEq, Prod.mk.injEq] at H
  obtain ⟨rfl, rfl, rfl⟩ := H
  go_enter Try.func31, Try.ntmps31
  go_wp2_with (first | ((with_reducible refine gate_dst (N := 2) rfl ?_); refine box_event ?hg (N := 2) ?hd (cs := #[.bool false, .int .i64 0, .string (⟨#[]⟩ : ByteArray)]) (t := 62) ?hr ?_; (case hd => rfl); (case hg => rfl); (case hr => first | (go_simp; done) | (go_simp; rfl)); intro gb217 hg w2 hbox hb; have n0_ := Aside0.mk (below_step (by repeat (first | (with_reducible first | exact HB.out | apply below_alloc | apply pw_below_drewN | apply below_drew1) | exact HB.out)) hb); have n1_ := Aside0.mk (hbox); have n2_ := Aside0.mk ((by rw [hg]; exact (below_size (by repeat (first | (with_reducible first | exact HB.out | apply below_alloc | apply pw_below_drewN | apply below_drew1) | exact HB.out))) : w.heap.size ≤ gb217)); have n3_ := Aside0.mk ((by rw [hg]; exact (below_size (by repeat (first | (with_reducible first | exact HB.out | apply below_alloc | apply pw_below_drewN | apply below_drew1) | exact HB.out))) : w.heap.size ≤ gb217)); clear HB; have HB := n0_; have BK217 := n1_; have GW217 := n2_; have GE217 := n3_; clear n0_ n1_ n2_ n3_; clear hb hbox hg; have hcz3_0 : w2.cell? ⟨gb217, 0, none⟩ = some (.bool false) := (blk_cell BK217.out 0).trans rfl; have hcz3_1 : w2.cell? ⟨gb217, 1, none⟩ = some (.int .i64 0) := (blk_cell BK217.out 1).trans rfl; have hcz3_2 : w2.cell? ⟨gb217, 2, none⟩ = some (.string (⟨#[]⟩ : ByteArray)) := (blk_cell BK217.out 2).trans rfl; have hfz3_0 := blk_frozen BK217.out 0; have hfz3_1 := blk_frozen BK217.out 1; have hfz3_2 := blk_frozen BK217.out 2))
  refine bodyPost_ret (results_cell_row rfl _ _ gb217 62 #[.bool true, .int .i64 0, .string a0] (0, 0) _ rfl (by (with_reducible repeat (first | refine blk_drewN ?_ _ | refine blk_drew ?_ | refine blk_alloc ?_ _)); refine blk_put (cs := #[.bool true, .int .i64 0, .string (⟨#[]⟩ : ByteArray)]) ?_ 2 _ rfl; (with_reducible repeat (first | refine blk_drewN ?_ _ | refine blk_drew ?_ | refine blk_alloc ?_ _)); refine blk_put (cs := #[.bool true, .int .i64 0, .string (⟨#[]⟩ : ByteArray)]) ?_ 1 _ rfl; (with_reducible repeat (first | refine blk_drewN ?_ _ | refine blk_drew ?_ | refine blk_alloc ?_ _)); refine blk_put (cs := #[.bool false, .int .i64 0, .string (⟨#[]⟩ : ByteArray)]) ?_ 0 _ rfl; (with_reducible repeat (first | refine blk_drewN ?_ _ | refine blk_drew ?_ | refine blk_alloc ?_ _)); exact BK217.out) Try.underlying62 rfl (by kernel_rfl)) rfl ?_
  exact ⟨by first | rfl | (simp [errW_none, errW_some] <;> rfl) | (simp [*, errW_none, errW_some] <;> rfl), by repeat (first | (with_reducible first | exact HB.out | apply below_alloc | apply pw_below_drewN | apply below_drew1 | refine below_set ?_ GE217.out) | exact HB.out)⟩

end Go.Proofs.Ytklnnmgfoebbhaa.PWireReplies
