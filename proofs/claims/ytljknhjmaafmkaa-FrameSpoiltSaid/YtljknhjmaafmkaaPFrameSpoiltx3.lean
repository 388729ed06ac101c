-- Written by wip/xprint of this repo (our own program) out of the translation; what is marked BY HAND is ours. Not trusted: Lean checks it.
import Derived.Test.YtljknhjmaafmkaaPFrameSpoiltx0
import Derived.Test.YtljknhjmaafmkaaPFrameSpoiltx1
import Derived.Test.YtljknhjmaafmkaaPFrameSpoiltx2
namespace Go.Proofs.Ytljknhjmaafmkaa.PFrameSpoilt
open Go.RowKit Go.Proofs.YtljknhjmaafmkaaW.PrintWords Go.Proofs.YtljknhjmaafmkaaW.PrintLast Go.Proofs.YtljknhjmaafmkaaW.PrintMore
attribute [local go_sem] max2_int min2_int max_two min_two max_three min_three max_four min_four   -- for this text's walks alone
set_option linter.unusedVariables false
set_option linter.unusedSimpArgs false

/-! ### frame_Decode: function 15 -/
-- BY HAND

theorem u32_shl8 {b i : Nat} (hb : b < 256) (hi : i < 4) : (b * 2 ^ (8 * i)) < 2 ^ 32 := by
  have h1 : b * 2 ^ (8 * i) < 2 ^ 8 * 2 ^ (8 * i) := Nat.mul_lt_mul_of_pos_right hb (Nat.pow_pos (by decide))
  rw [← Nat.pow_add] at h1
  exact Nat.lt_of_lt_of_le h1 (Nat.pow_le_pow_right (by decide) (by omega))
set_option maxHeartbeats 4000000 in
set_option maxRecDepth 100000 in
theorem fr_take (gb ga size at0 : Nat) (A : Addr) (n0 c : Nat) (l : List Int) (w : World) (hB : w.cell? ⟨gb, 0, none⟩ = some (.slice (some A) n0 c)) (hA : w.heap[ga]? = some (.cells #[.int .i64 (at0 : Int)] 3 (0, 0))) (hC : ∀ j, j < 128 → w.cell? (A.add j) = some (.int .u8 (rd l (j : Int)))) (hl : n0 = 128) (hb8 : ∀ i : Int, 0 ≤ rd l i ∧ rd l i < 256) (hne : gb ≠ ga) (hAb : A.block ≠ ga) (hs : at0 + size ≤ 128) (hs4 : size ≤ 4) :
    Calls Try.prog 25 #[.int .i64 (size : Int), .pointer (some ⟨gb, 0, none⟩), .pointer (some ⟨ga, 0, none⟩)] w fun e w' => e = .returned (.int .u32 ((frNum size at0 l : Nat) : Int)) ∧ w'.heap[ga]? = some (.cells #[.int .i64 ((at0 + size : Nat) : Int)] 3 (0, 0)) ∧ (∀ a : Addr, a.block ≠ ga → w'.cell? a = w.cell? a) ∧ ∀ b, b ≤ ga → Below b w w' := by
  subst hl
  have HB0 := Aside0.mk hB
  have HA0 := Aside0.mk hA
  have HC0 := Aside0.mk hC
  have HU := Aside0.mk hb8
  have HNE := Aside0.mk hne
  have HAB := Aside0.mk hAb
  have HS := Aside0.mk hs
  have HS4 := Aside0.mk hs4
  clear hB hA hC hb8 hne hAb hs hs4
  have hsz : (size : Int) ≤ 4 := by have := HS4.out; omega
  go_enter Try.func25, Try.ntmps25
  go_wp2
  go_loopg [5, 8] size (fun kq v5 v8 w' => ∃ (j : Nat), v5 = .int .u32 ((frNum j at0 l : Nat) : Int) ∧ v8 = .int .i64 (j : Int) ∧ Aside0 (kq + j = size) ∧ Aside0 (w'.heap[ga]? = some (.cells #[.int .i64 ((at0 + j : Nat) : Int)] 3 (0, 0))) ∧ Aside0 (∀ a : Addr, a.block ≠ ga → w'.cell? a = w.cell? a) ∧ Aside0 (∀ b, b ≤ ga → Below b w w'))
  case atStart => exact ⟨0, rfl, rfl, ⟨rfl⟩, HA0, ⟨fun _ _ => rfl⟩, ⟨fun _ _ => Below.refl _ _⟩⟩
  case round =>
    clear HA0
    obtain ⟨j, rfl, rfl, HK, HA, HO, HW⟩ := hrel
    cases gk with
    | zero =>
      have ej : j = size := by have := HK.out; omega
      subst ej
      go_wp2
      go_ret
      exact ⟨rfl, HA.out, HO.out, HW.out⟩
    | succ d =>
      have hj : j < size := by have := HK.out; omega
      have hj4 : j < 4 := by have := HS4.out; omega
      have hjb : decide ((j : Int) < (size : Int)) = true := decide_eq_true (by omega)
      have hjb' : decide (j < size) = true := decide_eq_true hj
      obtain ⟨a, ha⟩ : ∃ a, at0 + j = a := ⟨_, rfl⟩
      have ha128 : a < 128 := by have := HS.out; omega
      have hc1 := (HO.out ⟨gb, 0, none⟩ HNE.out).trans HB0.out
      have hc3 := (HO.out (A.add a) (by rw [add_block]; exact HAB.out)).trans (HC0.out a ha128)
      have hc2 := blk_cell HA.out 0
      rw [ha] at hc2
      simp only [List.getElem?_toArray, List.getElem?_cons_zero] at hc2
      have hf2 := blk_frozen HA.out 0
      obtain ⟨b, hb, hb256⟩ := b8_nat (HU.out (a : Int)).1 (HU.out (a : Int)).2
      rw [hb] at hc3
      obtain ⟨n, hn⟩ : ∃ n, frNum j at0 l = n := ⟨_, rfl⟩
      have hnl : n < 2 ^ (8 * j) := by
        rw [← hn, Nat.pow_mul]
        exact frNum_lt (fun i => by have := HU.out i; omega) j at0
      have hsh := u32_shl8 hb256 hj4
      have hor := u32_or_disj hnl hsh (by omega)
      have hstep : frNum (j + 1) at0 l = n + b * 2 ^ (8 * j) := by
        rw [frNum_snoc, hn, ha, hb, Int.toNat_natCast, Nat.pow_mul, Nat.mul_comm]
      rw [hn]
      have hu38 : IntKind.u64.wrap (j : Int) = (j : Int) := by simp [IntKind.wrap, IntKind.bits, IntKind.signed]; omega
      have hmul : IntKind.u64.wrap (8 * (j : Int)) = ((8 * j : Nat) : Int) := by simp [IntKind.wrap, IntKind.bits, IntKind.signed]; omega
      have hbw : IntKind.u32.wrap (b : Int) = (b : Int) := u32_wrap (by omega)
      have HSTEP := Aside0.mk hstep
      clear hstep hnl hn
      go_wp2
      go_roundg d
      case measure => omega
      case rel =>
        have hv : Go.bits .or .u32 (n : Int) ((b : Int) * 2 ^ (8 * j) % 4294967296) = ((frNum (j + 1) at0 l : Nat) : Int) := by
          have hcast : (b : Int) * 2 ^ (8 * j) % 4294967296 = ((b * 2 ^ (8 * j) : Nat) : Int) := by
            rw [show (b : Int) * 2 ^ (8 * j) = ((b * 2 ^ (8 * j) : Nat) : Int) by push_cast; rfl]
            generalize b * 2 ^ (8 * j) = q at hsh
            omega
          rw [hcast, hor, HSTEP.out]
        refine ⟨j + 1, by rw [← hv], rfl, ⟨by have := HK.out; omega⟩, ⟨?_⟩, ⟨?_⟩, ⟨?_⟩⟩
        · exact blk_put HA.out 0 _ (by rw [show at0 + (j + 1) = a + 1 by omega]; rfl)
        · intro x hx
          exact (World.cell?_setCell_other _ _ _ _ (fun e => hx (by rw [← e]))).trans (HO.out x hx)
        · intro b h
          exact (HW.out b h).setCell (p := ⟨ga, 0, none⟩) h _

theorem C_cells {W : World} {A : Addr} {l : List Int} (h : Kd.C (Kd.int .u8) W (some A) l.length l) (hl : l.length = 128) : ∀ j, j < 128 → W.cell? (A.add j) = some (.int .u8 (rd l (j : Int))) := by
  intro j hj
  obtain ⟨ad, e, hc⟩ := h.2.2 (by omega)
  obtain rfl := Option.some.inj e
  obtain ⟨c, hc1, hc2, hc3⟩ := hc j l[j] (List.getElem?_eq_getElem (by omega))
  have hc2' : c = [.int .u8 l[j]] := hc2
  have := hc3 0 (.int .u8 l[j]) (by rw [hc2']; rfl)
  have hs1 : (Kd.int .u8).sz = 1 := rfl
  rw [hs1, Nat.mul_one, Nat.add_zero] at this
  rw [this]
  simp [rd, List.getD_eq_getElem?_getD, show j < l.length by omega]
theorem rd_b8 {l : List Int} (h : bytesOk l = true) (i : Int) : 0 ≤ rd l i ∧ rd l i < 256 := by
  by_cases hi : i.toNat < l.length
  · obtain ⟨n, hn, hn2⟩ := bytesOk_at h (List.getElem_mem hi)
    have : rd l i = l[i.toNat] := by simp [rd, List.getD_eq_getElem?_getD, hi]
    omega
  · have : rd l i = 0 := by simp [rd, List.getD_eq_getElem?_getD, hi]
    omega

theorem zeros_all {l : List Int} {a : Nat} (hl : l.length = 128) (h : ∀ i, i < 124 - a → rd l ((a + i : Nat) : Int) = 0) : ((l.take 124).drop a).all (fun x => x == 0) = true := by
  rw [List.all_eq_true]
  intro x hx
  obtain ⟨i, hi, rfl⟩ := List.mem_iff_getElem.1 hx
  rw [List.length_drop, List.length_take] at hi
  have := h i (by omega)
  rw [List.getElem_drop, List.getElem_take]
  simp only [rd, List.getD_eq_getElem?_getD, Int.toNat_natCast] at this
  rw [List.getElem?_eq_getElem (by omega)] at this
  simpa using this
theorem zeros_not {l : List Int} {a i : Nat} (hl : l.length = 128) (hi : i < 124 - a) (h : rd l ((a + i : Nat) : Int) ≠ 0) : ¬ ((l.take 124).drop a).all (fun x => x == 0) = true := by
  intro h2
  rw [List.all_eq_true] at h2
  have hm : rd l ((a + i : Nat) : Int) ∈ (l.take 124).drop a := by
    refine List.mem_iff_getElem.2 ⟨i, by rw [List.length_drop, List.length_take]; omega, ?_⟩
    rw [List.getElem_drop, List.getElem_take]
    simp only [rd, List.getD_eq_getElem?_getD, Int.toNat_natCast]
    rw [List.getElem?_eq_getElem (by omega)]
    rfl
  have := h2 _ hm
  simp at this
  exact h this
def frBad : Option (Int × Int × Int × Int × List Int × Int) := some (0, 0, 0, 0, [], 40)
def frDec2 (l0 : List Int) : Option (Int × Int × Int × Int × List Int × Int) :=
  if (((l0.take 124).drop (16 + frNum 2 2 l0)).all (fun x => x == 0)) = true then (sum_Of.f (l0.take 124)).bind fun s => if ((frNum 4 124 l0 : Nat) : Int) = s then some ((frNum 4 4 l0 : Nat), (frNum 4 8 l0 : Nat), (frNum 4 12 l0 : Nat), (frNum 1 1 l0 : Nat), (l0.take (16 + frNum 2 2 l0)).drop 16, 0) else frBad
  else frBad
def frDec1 (l0 : List Int) : Option (Int × Int × Int × Int × List Int × Int) := (frame_known.f ((frNum 1 1 l0 : Nat) : Int)).bind fun q => if q = true then (if 108 < frNum 2 2 l0 then frBad else if 2147483647 < frNum 4 4 l0 then frBad else if 2147483647 < frNum 4 8 l0 then frBad else if 2147483647 < frNum 4 12 l0 then frBad else frDec2 l0) else frBad

theorem C_of_cells {W : World} {A : Addr} {l : List Int} {n : Nat} (h : ∀ j, j < n → W.cell? (A.add j) = some (.int .u8 (rd l (j : Int)))) (hn : n ≤ l.length) (hs : n ≤ 128) : Kd.C (Kd.int .u8) W (some A) (l.take n).length (l.take n) := by
  refine ⟨rfl, by rw [List.length_take]; omega, fun _ => ⟨_, rfl, fun j p hj => ?_⟩⟩
  refine ⟨[.int .u8 p], rfl, rfl, fun i u hu => ?_⟩
  cases i with
  | succ i => simp at hu
  | zero =>
    have hu' : Value.int .u8 p = u := by simpa using hu
    subst hu'
    have hjn : j < n := by
      rcases Nat.lt_or_ge j n with h1 | h1
      · exact h1
      · rw [List.getElem?_eq_none (by rw [List.length_take]; omega)] at hj; cases hj
    rw [List.getElem?_take, if_pos hjn] at hj
    have hs1 : (Kd.int .u8).sz = 1 := rfl
    rw [hs1, Nat.mul_one, Nat.add_zero, h j hjn]
    have := (List.getElem?_eq_some_iff.1 hj)
    obtain ⟨h1, h2⟩ := this
    simp [rd, List.getD_eq_getElem?_getD, h1, h2]
theorem fr_of2 (A : Addr) (c : Nat) (l : List Int) (hl : l.length = 128) (hc : 128 ≤ c) (s : Int) (hs : sum_Of.f (l.take 124) = some s) (w : World) (h : ∀ j, j < 128 → w.cell? (A.add j) = some (.int .u8 (rd l (j : Int)))) :
    Calls Try.prog 21 #[.slice (some A) 124 c] w fun e w' => e = .returned (.int .u32 s) ∧ Below w.heap.size w w' := by
  have h2 : (l.take 124).length = 124 := by rw [List.length_take]; omega
  have e := sum_Of.calls (some A) c (l.take 124) s w (C_of_cells (fun j hj => h j (by omega)) (by omega) (by omega)) (by omega) hs
  rw [h2] at e
  exact e

theorem C_mid {W : World} {A : Addr} {l : List Int} {a b : Nat} (h : ∀ j, j < 128 → W.cell? (A.add j) = some (.int .u8 (rd l (j : Int)))) (hl : l.length = 128) (ha : a ≤ b) (hb : b ≤ 128) (m : Nat) (hm : m = b - a) : Kd.C (Kd.int .u8) W (some (A.add a)) m ((l.take b).drop a) := by
  have hlen : ((l.take b).drop a).length = m := by rw [List.length_drop, List.length_take]; omega
  refine ⟨hlen, by omega, fun _ => ⟨_, rfl, fun j p hj => ?_⟩⟩
  refine ⟨[.int .u8 p], rfl, rfl, fun i u hu => ?_⟩
  cases i with
  | succ i => simp at hu
  | zero =>
    have hu' : Value.int .u8 p = u := by simpa using hu
    subst hu'
    have hjm : j < m := by have := (List.getElem?_eq_some_iff.1 hj).1; omega
    rw [List.getElem?_drop, List.getElem?_take, if_pos (by omega)] at hj
    have hs1 : (Kd.int .u8).sz = 1 := rfl
    rw [hs1, Nat.mul_one, Nat.add_zero, Addr.add_add, h (a + j) (by omega)]
    have e : rd l ((a + j : Nat) : Int) = p := by
      simp only [rd, List.getD_eq_getElem?_getD, Int.toNat_natCast]
      rw [hj]
      rfl
    rw [e]

set_option maxHeartbeats 8000000 in
set_option maxRecDepth 100000 in
theorem fr_dec1 (A0 : Option Addr) (c0 : Nat) (l0 : List Int) (w : World) (hr0 : Kd.C (Kd.int .u8) w A0 l0.length l0) (hc0 : l0.length ≤ c0) (hl : l0.length ≠ 128) :
    Calls Try.prog 15 #[.slice A0 l0.length c0] w fun e w' => ∃ v4_ : Value, e = .returned (.tuple #[.agg #[.int .i64 0, .int .i64 0, .int .i64 0], .int .i64 0, v4_, .int .i64 40]) ∧ Kd.R (Kd.int .u8) 5 w' w.heap.size (fun _ => True) v4_ ([] : List Int) ∧ Below w.heap.size w w' := by
  have hu23 := Try.underlying23
  have HC := Aside0.mk hr0
  clear hr0
  have HB := Aside0.mk (Below.refl w.heap.size w)
  have h1 : ((l0.length : Int) == 128) = false := by simp; omega
  have h2 : (l0.length == 128) = false := by simp; omega
  have h3 : ¬ (l0.length : Int) = 128 := by omega
  go_enter Try.func15, Try.ntmps15
  go_wp2_with (first | ((with_reducible refine gate_dst (N := 1) rfl ?_); (try (refine gate_guard (by rfl) ?_; dsimp only)); refine box_event ?hg (N := 1) ?hd (cs := #[.slice A0 l0.length c0]) (t := 24) ?hr ?_; (case hd => rfl); (case hg => rfl); (case hr => first | (go_simp; done) | (go_simp; rfl)); intro g1 hg w1 hbox hb; have m0 := Aside0.mk (below_step (by repeat (first | (with_reducible first | exact HB.out | apply below_alloc | apply pw_below_drewN | apply below_drew1) | exact HB.out)) hb); have m1 := Aside0.mk hbox; have m2 := Aside0.mk ((by rw [hg]; exact (below_size (by repeat (first | (with_reducible first | exact HB.out | apply below_alloc | apply pw_below_drewN | apply below_drew1) | exact HB.out))) : w.heap.size ≤ g1)); clear HB ; have HB := m0; have B1 := m1; have G1 := m2; clear m0 m1 m2; clear hb hbox hg) | ((with_reducible refine gate_dst (N := 2) rfl ?_); (try (refine gate_guard (by rfl) ?_; dsimp only)); refine box_event ?hg (N := 2) ?hd (cs := #[.int .i64 0, .int .i64 0, .int .i64 0]) (t := 23) ?hr ?_; (case hd => rfl); (case hg => rfl); (case hr => first | (go_simp; done) | (go_simp; rfl)); intro g2 hg w2 hbox hb; have m0 := Aside0.mk (below_step (by repeat (first | (with_reducible first | exact HB.out | apply below_alloc | apply pw_below_drewN | apply below_drew1) | exact HB.out)) hb); have m1 := Aside0.mk hbox; have m2 := Aside0.mk ((by rw [hg]; exact (below_size (by repeat (first | (with_reducible first | exact HB.out | apply below_alloc | apply pw_below_drewN | apply below_drew1) | exact HB.out))) : w.heap.size ≤ g2)); have m3 := Aside0.mk (blk_below (g := g1) (o := (.cells #[.slice A0 l0.length c0] 24 (0, 0))) (by (with_reducible repeat (first | refine blk_drewN ?_ _ | refine blk_drew ?_ | refine blk_alloc ?_ _)); exact B1.out) hb); have m4 := Aside0.mk ((by rw [hg]; exact (blk_lt (g := g1) (o := (.cells #[.slice A0 l0.length c0] 24 (0, 0))) (by (with_reducible repeat (first | refine blk_drewN ?_ _ | refine blk_drew ?_ | refine blk_alloc ?_ _)); exact B1.out))) : g1 < g2); clear HB B1; have HB := m0; have B2 := m1; have G2 := m2; have B1 := m3; have Ng1g2 := m4; clear m0 m1 m2 m3 m4; clear hb hbox hg; have hc1 := blk_cell B1.out 0; have hf1 := blk_frozen B1.out 0; simp only [List.getElem?_toArray, List.getElem?_cons_zero, List.getElem?_cons_succ] at hc1; have hc20 := blk_cell B2.out 0; have hc21 := blk_cell B2.out 1; have hc22 := blk_cell B2.out 2; have hf2 := blk_frozen B2.out 0; have hf21 := blk_frozen B2.out 1; have hf22 := blk_frozen B2.out 2; simp only [List.getElem?_toArray, List.getElem?_cons_zero, List.getElem?_cons_succ] at hc20 hc21 hc22))
  refine bodyPost_ret (results_list (rs := [.cell 2 23, .tmp 3, .tmp 4, .tmp 5]) rfl (by simp) (.cell g2 23 #[.int .i64 0, .int .i64 0, .int .i64 0] (0, 0) _ rfl (by (with_reducible repeat (first | refine blk_drewN ?_ _ | refine blk_drew ?_ | refine blk_alloc ?_ _)); refine blk_put (cs := #[.int .i64 0, .int .i64 0, .int .i64 0]) ?_ 2 _ rfl; (with_reducible repeat (first | refine blk_drewN ?_ _ | refine blk_drew ?_ | refine blk_alloc ?_ _)); refine blk_put (cs := #[.int .i64 0, .int .i64 0, .int .i64 0]) ?_ 1 _ rfl; (with_reducible repeat (first | refine blk_drewN ?_ _ | refine blk_drew ?_ | refine blk_alloc ?_ _)); refine blk_put (cs := #[.int .i64 0, .int .i64 0, .int .i64 0]) ?_ 0 _ rfl; (with_reducible repeat (first | refine blk_drewN ?_ _ | refine blk_drew ?_ | refine blk_alloc ?_ _)); exact B2.out) Try.underlying23 rfl (by kernel_rfl) (.tmp (.tmp (.tmp .nil))))) rfl ?_
  exact ⟨_, rfl, Kd.R_nil _ _ _ _ _, by repeat (first | (with_reducible first | exact HB.out | apply below_alloc | apply pw_below_drewN | apply below_drew1 | refine below_set ?_ G2.out) | exact HB.out)⟩

set_option maxHeartbeats 8000000 in
set_option maxRecDepth 100000 in
theorem fr_dec2 (A0 : Option Addr) (c0 : Nat) (l0 : List Int) (w : World) (hr0 : Kd.C (Kd.int .u8) w A0 l0.length l0) (hc0 : l0.length ≤ c0) (hl : l0.length = 128) (h0 : rd l0 0 ≠ 76) :
    Calls Try.prog 15 #[.slice A0 l0.length c0] w fun e w' => ∃ v4_ : Value, e = .returned (.tuple #[.agg #[.int .i64 0, .int .i64 0, .int .i64 0], .int .i64 0, v4_, .int .i64 40]) ∧ Kd.R (Kd.int .u8) 5 w' w.heap.size (fun _ => True) v4_ ([] : List Int) ∧ Below w.heap.size w w' := by
  have hu23 := Try.underlying23
  have HC := Aside0.mk hr0
  clear hr0
  have HB := Aside0.mk (Below.refl w.heap.size w)
  have HL := Aside0.mk hl
  obtain ⟨A, hA, _⟩ := HC.out.2.2 (by omega)
  subst hA
  have hAl : A.block < w.heap.size := by
    have := C_cells HC.out hl 0 (by decide)
    rw [show A.add 0 = A from by cases A; first | rfl | simp [Addr.add]] at this
    exact block_lt_of_cell this
  have HAL := Aside0.mk hAl
  have hc128 : 128 ≤ c0 := by omega
  clear hAl
  rw [hl]
  clear hl
  have h1 : (rd l0 0 == 76) = false := by simp; omega
  go_enter Try.func15, Try.ntmps15
  go_wp2_with (first | ((with_reducible refine gate_dst (N := 1) rfl ?_); (try (refine gate_guard (by rfl) ?_; dsimp only)); refine box_event ?hg (N := 1) ?hd (cs := #[.slice (some A) 128 c0]) (t := 24) ?hr ?_; (case hd => rfl); (case hg => rfl); (case hr => first | (go_simp; done) | (go_simp; rfl)); intro g1 hg w1 hbox hb; have m0 := Aside0.mk (below_step (by repeat (first | (with_reducible first | exact HB.out | apply below_alloc | apply pw_below_drewN | apply below_drew1) | exact HB.out)) hb); have m1 := Aside0.mk hbox; have m2 := Aside0.mk ((by rw [hg]; exact (below_size (by repeat (first | (with_reducible first | exact HB.out | apply below_alloc | apply pw_below_drewN | apply below_drew1) | exact HB.out))) : w.heap.size ≤ g1)); clear HB ; have HB := m0; have B1 := m1; have G1 := m2; clear m0 m1 m2; clear hb hbox hg) | ((with_reducible refine gate_dst (N := 2) rfl ?_); (try (refine gate_guard (by rfl) ?_; dsimp only)); refine box_event ?hg (N := 2) ?hd (cs := #[.int .i64 0, .int .i64 0, .int .i64 0]) (t := 23) ?hr ?_; (case hd => rfl); (case hg => rfl); (case hr => first | (go_simp; done) | (go_simp; rfl)); intro g2 hg w2 hbox hb; have m0 := Aside0.mk (below_step (by repeat (first | (with_reducible first | exact HB.out | apply below_alloc | apply pw_below_drewN | apply below_drew1) | exact HB.out)) hb); have m1 := Aside0.mk hbox; have m2 := Aside0.mk ((by rw [hg]; exact (below_size (by repeat (first | (with_reducible first | exact HB.out | apply below_alloc | apply pw_below_drewN | apply below_drew1) | exact HB.out))) : w.heap.size ≤ g2)); have m3 := Aside0.mk (blk_below (g := g1) (o := (.cells #[.slice (some A) 128 c0] 24 (0, 0))) (by (with_reducible repeat (first | refine blk_drewN ?_ _ | refine blk_drew ?_ | refine blk_alloc ?_ _)); exact B1.out) hb); have m4 := Aside0.mk ((by rw [hg]; exact (blk_lt (g := g1) (o := (.cells #[.slice (some A) 128 c0] 24 (0, 0))) (by (with_reducible repeat (first | refine blk_drewN ?_ _ | refine blk_drew ?_ | refine blk_alloc ?_ _)); exact B1.out))) : g1 < g2); clear HB B1; have HB := m0; have B2 := m1; have G2 := m2; have B1 := m3; have Ng1g2 := m4; clear m0 m1 m2 m3 m4; clear hb hbox hg; have hc1 := blk_cell B1.out 0; have hf1 := blk_frozen B1.out 0; simp only [List.getElem?_toArray, List.getElem?_cons_zero, List.getElem?_cons_succ] at hc1; have hc20 := blk_cell B2.out 0; have hc21 := blk_cell B2.out 1; have hc22 := blk_cell B2.out 2; have hf2 := blk_frozen B2.out 0; have hf21 := blk_frozen B2.out 1; have hf22 := blk_frozen B2.out 2; simp only [List.getElem?_toArray, List.getElem?_cons_zero, List.getElem?_cons_succ] at hc20 hc21 hc22; have hcz := (C_cells (l := l0) (Kd.C_below HC.out (by repeat (first | (with_reducible first | exact HB.out | apply below_alloc | apply pw_below_drewN | apply below_drew1) | exact HB.out))) HL.out) 0 (by decide); rw [show A.add 0 = A from by cases A; first | rfl | simp [Addr.add]] at hcz))
  refine bodyPost_ret (results_list (rs := [.cell 2 23, .tmp 3, .tmp 4, .tmp 5]) rfl (by simp) (.cell g2 23 #[.int .i64 0, .int .i64 0, .int .i64 0] (0, 0) _ rfl (by (with_reducible repeat (first | refine blk_drewN ?_ _ | refine blk_drew ?_ | refine blk_alloc ?_ _)); refine blk_put (cs := #[.int .i64 0, .int .i64 0, .int .i64 0]) ?_ 2 _ rfl; (with_reducible repeat (first | refine blk_drewN ?_ _ | refine blk_drew ?_ | refine blk_alloc ?_ _)); refine blk_put (cs := #[.int .i64 0, .int .i64 0, .int .i64 0]) ?_ 1 _ rfl; (with_reducible repeat (first | refine blk_drewN ?_ _ | refine blk_drew ?_ | refine blk_alloc ?_ _)); refine blk_put (cs := #[.int .i64 0, .int .i64 0, .int .i64 0]) ?_ 0 _ rfl; (with_reducible repeat (first | refine blk_drewN ?_ _ | refine blk_drew ?_ | refine blk_alloc ?_ _)); exact B2.out) Try.underlying23 rfl (by kernel_rfl) (.tmp (.tmp (.tmp .nil))))) rfl ?_
  exact ⟨_, rfl, Kd.R_nil _ _ _ _ _, by repeat (first | (with_reducible first | exact HB.out | apply below_alloc | apply pw_below_drewN | apply below_drew1 | refine below_set ?_ G2.out) | exact HB.out)⟩

set_option maxHeartbeats 8000000 in
set_option maxRecDepth 100000 in
theorem fr_dec3 (A0 : Option Addr) (c0 : Nat) (l0 : List Int) (w : World) (hr0 : Kd.C (Kd.int .u8) w A0 l0.length l0) (hc0 : l0.length ≤ c0) (r1 r2 r3 r4 : Int) (r5 : List Int) (r6 : Int) (h : frDec1 l0 = some (r1, r2, r3, r4, r5, r6)) (hl : l0.length = 128) (h0 : rd l0 0 = 76) (hu : bytesOk l0 = true) :
    Calls Try.prog 15 #[.slice A0 l0.length c0] w fun e w' => ∃ v4_ : Value, e = .returned (.tuple #[.agg #[.int .i64 r1, .int .i64 r2, .int .i64 r3], .int .i64 r4, v4_, .int .i64 r6]) ∧ Kd.R (Kd.int .u8) 5 w' w.heap.size (fun _ => True) v4_ r5 ∧ Below w.heap.size w w' := by
  have hu23 := Try.underlying23
  have HC := Aside0.mk hr0
  clear hr0
  have HB := Aside0.mk (Below.refl w.heap.size w)
  have HL := Aside0.mk hl
  obtain ⟨A, hA, _⟩ := HC.out.2.2 (by omega)
  subst hA
  have hAl : A.block < w.heap.size := by
    have := C_cells HC.out hl 0 (by decide)
    rw [show A.add 0 = A from by cases A; first | rfl | simp [Addr.add]] at this
    exact block_lt_of_cell this
  have HAL := Aside0.mk hAl
  have hc128 : 128 ≤ c0 := by omega
  clear hAl
  rw [hl]
  clear hl
  have HU := Aside0.mk (rd_b8 hu)
  clear hu
  go_enter Try.func15, Try.ntmps15
  go_wp2_with (first | ((with_reducible refine gate_dst (N := 1) rfl ?_); (try (refine gate_guard (by rfl) ?_; dsimp only)); refine box_event ?hg (N := 1) ?hd (cs := #[.slice (some A) 128 c0]) (t := 24) ?hr ?_; (case hd => rfl); (case hg => rfl); (case hr => first | (go_simp; done) | (go_simp; rfl)); intro g1 hg w1 hbox hb; have m0 := Aside0.mk (below_step (by repeat (first | (with_reducible first | exact HB.out | apply below_alloc | apply pw_below_drewN | apply below_drew1) | exact HB.out)) hb); have m1 := Aside0.mk hbox; have m2 := Aside0.mk ((by rw [hg]; exact (below_size (by repeat (first | (with_reducible first | exact HB.out | apply below_alloc | apply pw_below_drewN | apply below_drew1) | exact HB.out))) : w.heap.size ≤ g1)); clear HB ; have HB := m0; have B1 := m1; have G1 := m2; clear m0 m1 m2; clear hb hbox hg) | ((with_reducible refine gate_dst (N := 2) rfl ?_); (try (refine gate_guard (by rfl) ?_; dsimp only)); refine box_event ?hg (N := 2) ?hd (cs := #[.int .i64 0, .int .i64 0, .int .i64 0]) (t := 23) ?hr ?_; (case hd => rfl); (case hg => rfl); (case hr => first | (go_simp; done) | (go_simp; rfl)); intro g2 hg w2 hbox hb; have m0 := Aside0.mk (below_step (by repeat (first | (with_reducible first | exact HB.out | apply below_alloc | apply pw_below_drewN | apply below_drew1) | exact HB.out)) hb); have m1 := Aside0.mk hbox; have m2 := Aside0.mk ((by rw [hg]; exact (below_size (by repeat (first | (with_reducible first | exact HB.out | apply below_alloc | apply pw_below_drewN | apply below_drew1) | exact HB.out))) : w.heap.size ≤ g2)); have m3 := Aside0.mk (blk_below (g := g1) (o := (.cells #[.slice (some A) 128 c0] 24 (0, 0))) (by (with_reducible repeat (first | refine blk_drewN ?_ _ | refine blk_drew ?_ | refine blk_alloc ?_ _)); exact B1.out) hb); have m4 := Aside0.mk ((by rw [hg]; exact (blk_lt (g := g1) (o := (.cells #[.slice (some A) 128 c0] 24 (0, 0))) (by (with_reducible repeat (first | refine blk_drewN ?_ _ | refine blk_drew ?_ | refine blk_alloc ?_ _)); exact B1.out))) : g1 < g2); clear HB B1; have HB := m0; have B2 := m1; have G2 := m2; have B1 := m3; have Ng1g2 := m4; clear m0 m1 m2 m3 m4; clear hb hbox hg; have hc1 := blk_cell B1.out 0; have hf1 := blk_frozen B1.out 0; simp only [List.getElem?_toArray, List.getElem?_cons_zero, List.getElem?_cons_succ] at hc1; have hc20 := blk_cell B2.out 0; have hc21 := blk_cell B2.out 1; have hc22 := blk_cell B2.out 2; have hf2 := blk_frozen B2.out 0; have hf21 := blk_frozen B2.out 1; have hf22 := blk_frozen B2.out 2; simp only [List.getElem?_toArray, List.getElem?_cons_zero, List.getElem?_cons_succ] at hc20 hc21 hc22; have hcz := (C_cells (l := l0) (Kd.C_below HC.out (by repeat (first | (with_reducible first | exact HB.out | apply below_alloc | apply pw_below_drewN | apply below_drew1) | exact HB.out))) HL.out) 0 (by decide); rw [show A.add 0 = A from by cases A; first | rfl | simp [Addr.add]] at hcz) | ((with_reducible refine gate_dst (N := 6) rfl ?_); (try (refine gate_guard (by rfl) ?_; dsimp only)); refine box_event ?hg (N := 6) ?hd (cs := #[.int .i64 0]) (t := 3) ?hr ?_; (case hd => rfl); (case hg => rfl); (case hr => first | (go_simp; done) | (go_simp; rfl)); intro g6 hg w6 hbox hb; have m0 := Aside0.mk (below_step (by repeat (first | (with_reducible first | exact HB.out | apply below_alloc | apply pw_below_drewN | apply below_drew1) | exact HB.out)) hb); have m1 := Aside0.mk hbox; have m2 := Aside0.mk ((by rw [hg]; exact (below_size (by repeat (first | (with_reducible first | exact HB.out | apply below_alloc | apply pw_below_drewN | apply below_drew1) | exact HB.out))) : w.heap.size ≤ g6)); have m3 := Aside0.mk (blk_below (g := g1) (o := (.cells #[.slice (some A) 128 c0] 24 (0, 0))) (by (with_reducible repeat (first | refine blk_drewN ?_ _ | refine blk_drew ?_ | refine blk_alloc ?_ _)); exact B1.out) hb); have m4 := Aside0.mk ((by rw [hg]; exact (blk_lt (g := g1) (o := (.cells #[.slice (some A) 128 c0] 24 (0, 0))) (by (with_reducible repeat (first | refine blk_drewN ?_ _ | refine blk_drew ?_ | refine blk_alloc ?_ _)); exact B1.out))) : g1 < g6); have m5 := Aside0.mk (blk_below (g := g2) (o := (.cells #[.int .i64 0, .int .i64 0, .int .i64 0] 23 (0, 0))) (by (with_reducible repeat (first | refine blk_drewN ?_ _ | refine blk_drew ?_ | refine blk_alloc ?_ _)); exact B2.out) hb); have m6 := Aside0.mk ((by rw [hg]; exact (blk_lt (g := g2) (o := (.cells #[.int .i64 0, .int .i64 0, .int .i64 0] 23 (0, 0))) (by (with_reducible repeat (first | refine blk_drewN ?_ _ | refine blk_drew ?_ | refine blk_alloc ?_ _)); exact B2.out))) : g2 < g6); clear hc1 hf1 hc20 hc21 hc22 hf2 hf21 hf22 hcz; clear HB B1 B2; have HB := m0; have A6 := m1; have G6 := m2; have B1 := m3; have Ng1g6 := m4; have B2 := m5; have Ng2g6 := m6; clear m0 m1 m2 m3 m4 m5 m6; clear hb hbox hg; have hc1 := blk_cell B1.out 0; have hf1 := blk_frozen B1.out 0; simp only [List.getElem?_toArray, List.getElem?_cons_zero, List.getElem?_cons_succ] at hc1; have hc20 := blk_cell B2.out 0; have hc21 := blk_cell B2.out 1; have hc22 := blk_cell B2.out 2; have hf2 := blk_frozen B2.out 0; have hf21 := blk_frozen B2.out 1; have hf22 := blk_frozen B2.out 2; simp only [List.getElem?_toArray, List.getElem?_cons_zero, List.getElem?_cons_succ] at hc20 hc21 hc22; have hc6 := blk_cell A6.out 0; have hf6 := blk_frozen A6.out 0; simp only [List.getElem?_toArray, List.getElem?_cons_zero, List.getElem?_cons_succ] at hc6))
  have m0 := Aside0.mk (blk_put (cs' := #[.int .i64 1]) A6.out 0 (.int .i64 1) rfl)
  have m1 := Aside0.mk (blk_far (p := ⟨g6, 0, none⟩) B1.out (Nat.ne_of_lt Ng1g6.out) (.int .i64 1))
  have m2 := Aside0.mk (blk_far (p := ⟨g6, 0, none⟩) B2.out (Nat.ne_of_lt Ng2g6.out) (.int .i64 1))
  have m3 := Aside0.mk (below_set (j := 0) (v := .int .i64 1) HB.out G6.out)
  clear HB B1 B2 A6 hc6 hf6
  clear hc1 hf1 hc20 hc21 hc22 hf2 hf21 hf22
  have A6 := m0
  have B1 := m1
  have B2 := m2
  have HB := m3
  clear m0 m1 m2 m3
  generalize w6.setCell ⟨g6, 0, none⟩ (.int .i64 1) = wa at A6 B1 B2 HB ⊢
  refine (fr_take g1 g6 1 1 A 128 c0 l0 _ ((blk_cell (by (with_reducible repeat (first | refine blk_drewN ?_ _ | refine blk_drew ?_ | refine blk_alloc ?_ _)); exact B1.out) 0).trans rfl) (by (with_reducible repeat (first | refine blk_drewN ?_ _ | refine blk_drew ?_ | refine blk_alloc ?_ _)); exact A6.out) (C_cells (Kd.C_below HC.out (by repeat (first | (with_reducible first | exact HB.out | apply below_alloc | apply pw_below_drewN | apply below_drew1) | exact HB.out))) HL.out) rfl HU.out (Nat.ne_of_lt Ng1g6.out) (by have := HAL.out; have := G6.out; omega) (by omega) (by omega)).mono ?_
  rintro e wt0 ⟨rfl, ha6, _, hW⟩
  have m0 := Aside0.mk (Below.trans (show Below w.heap.size w _ from by repeat (first | (with_reducible first | exact HB.out | apply below_alloc | apply pw_below_drewN | apply below_drew1) | exact HB.out)) (hW _ G6.out))
  have m1 := Aside0.mk (((hW (g1 + 1) Ng1g6.out).block g1 (Nat.lt_succ_self _)).trans (by (with_reducible repeat (first | refine blk_drewN ?_ _ | refine blk_drew ?_ | refine blk_alloc ?_ _)); exact B1.out))
  have m2 := Aside0.mk (((hW (g2 + 1) Ng2g6.out).block g2 (Nat.lt_succ_self _)).trans (by (with_reducible repeat (first | refine blk_drewN ?_ _ | refine blk_drew ?_ | refine blk_alloc ?_ _)); exact B2.out))
  have m3 := Aside0.mk (show wt0.heap[g6]? = some (.cells #[.int .i64 2] 3 (0, 0)) from ha6)
  clear HB B1 B2 A6 ha6 hW
  have HB := m0
  have B1 := m1
  have B2 := m2
  have A6 := m3
  clear m0 m1 m2 m3
  obtain ⟨n0, hn0⟩ : ∃ n, frNum 1 1 l0 = n := ⟨_, rfl⟩
  have hnl0 : n0 < 256 := by rw [← hn0]; exact Nat.lt_of_lt_of_eq (frNum_lt (fun i => by have := HU.out i; omega) 1 1) (by decide)
  rw [hn0]
  dsimp only
  go_wp2_with (fail)
  refine (fr_take g1 g6 2 2 A 128 c0 l0 _ ((blk_cell (by (with_reducible repeat (first | refine blk_drewN ?_ _ | refine blk_drew ?_ | refine blk_alloc ?_ _)); exact B1.out) 0).trans rfl) (by (with_reducible repeat (first | refine blk_drewN ?_ _ | refine blk_drew ?_ | refine blk_alloc ?_ _)); exact A6.out) (C_cells (Kd.C_below HC.out (by repeat (first | (with_reducible first | exact HB.out | apply below_alloc | apply pw_below_drewN | apply below_drew1) | exact HB.out))) HL.out) rfl HU.out (Nat.ne_of_lt Ng1g6.out) (by have := HAL.out; have := G6.out; omega) (by omega) (by omega)).mono ?_
  rintro e wt1 ⟨rfl, ha6, _, hW⟩
  have m0 := Aside0.mk (Below.trans (show Below w.heap.size w _ from by repeat (first | (with_reducible first | exact HB.out | apply below_alloc | apply pw_below_drewN | apply below_drew1) | exact HB.out)) (hW _ G6.out))
  have m1 := Aside0.mk (((hW (g1 + 1) Ng1g6.out).block g1 (Nat.lt_succ_self _)).trans (by (with_reducible repeat (first | refine blk_drewN ?_ _ | refine blk_drew ?_ | refine blk_alloc ?_ _)); exact B1.out))
  have m2 := Aside0.mk (((hW (g2 + 1) Ng2g6.out).block g2 (Nat.lt_succ_self _)).trans (by (with_reducible repeat (first | refine blk_drewN ?_ _ | refine blk_drew ?_ | refine blk_alloc ?_ _)); exact B2.out))
  have m3 := Aside0.mk (show wt1.heap[g6]? = some (.cells #[.int .i64 4] 3 (0, 0)) from ha6)
  clear HB B1 B2 A6 ha6 hW
  have HB := m0
  have B1 := m1
  have B2 := m2
  have A6 := m3
  clear m0 m1 m2 m3
  obtain ⟨n1, hn1⟩ : ∃ n, frNum 2 2 l0 = n := ⟨_, rfl⟩
  have hnl1 : n1 < 65536 := by rw [← hn1]; exact Nat.lt_of_lt_of_eq (frNum_lt (fun i => by have := HU.out i; omega) 2 2) (by decide)
  rw [hn1]
  dsimp only
  go_wp2_with (fail)
  refine (fr_take g1 g6 4 4 A 128 c0 l0 _ ((blk_cell (by (with_reducible repeat (first | refine blk_drewN ?_ _ | refine blk_drew ?_ | refine blk_alloc ?_ _)); exact B1.out) 0).trans rfl) (by (with_reducible repeat (first | refine blk_drewN ?_ _ | refine blk_drew ?_ | refine blk_alloc ?_ _)); exact A6.out) (C_cells (Kd.C_below HC.out (by repeat (first | (with_reducible first | exact HB.out | apply below_alloc | apply pw_below_drewN | apply below_drew1) | exact HB.out))) HL.out) rfl HU.out (Nat.ne_of_lt Ng1g6.out) (by have := HAL.out; have := G6.out; omega) (by omega) (by omega)).mono ?_
  rintro e wt2 ⟨rfl, ha6, _, hW⟩
  have m0 := Aside0.mk (Below.trans (show Below w.heap.size w _ from by repeat (first | (with_reducible first | exact HB.out | apply below_alloc | apply pw_below_drewN | apply below_drew1) | exact HB.out)) (hW _ G6.out))
  have m1 := Aside0.mk (((hW (g1 + 1) Ng1g6.out).block g1 (Nat.lt_succ_self _)).trans (by (with_reducible repeat (first | refine blk_drewN ?_ _ | refine blk_drew ?_ | refine blk_alloc ?_ _)); exact B1.out))
  have m2 := Aside0.mk (((hW (g2 + 1) Ng2g6.out).block g2 (Nat.lt_succ_self _)).trans (by (with_reducible repeat (first | refine blk_drewN ?_ _ | refine blk_drew ?_ | refine blk_alloc ?_ _)); exact B2.out))
  have m3 := Aside0.mk (show wt2.heap[g6]? = some (.cells #[.int .i64 8] 3 (0, 0)) from ha6)
  clear HB B1 B2 A6 ha6 hW
  have HB := m0
  have B1 := m1
  have B2 := m2
  have A6 := m3
  clear m0 m1 m2 m3
  obtain ⟨n2, hn2⟩ : ∃ n, frNum 4 4 l0 = n := ⟨_, rfl⟩
  have hnl2 : n2 < 4294967296 := by rw [← hn2]; exact Nat.lt_of_lt_of_eq (frNum_lt (fun i => by have := HU.out i; omega) 4 4) (by decide)
  rw [hn2]
  dsimp only
  go_wp2_with (fail)
  refine (fr_take g1 g6 4 8 A 128 c0 l0 _ ((blk_cell (by (with_reducible repeat (first | refine blk_drewN ?_ _ | refine blk_drew ?_ | refine blk_alloc ?_ _)); exact B1.out) 0).trans rfl) (by (with_reducible repeat (first | refine blk_drewN ?_ _ | refine blk_drew ?_ | refine blk_alloc ?_ _)); exact A6.out) (C_cells (Kd.C_below HC.out (by repeat (first | (with_reducible first | exact HB.out | apply below_alloc | apply pw_below_drewN | apply below_drew1) | exact HB.out))) HL.out) rfl HU.out (Nat.ne_of_lt Ng1g6.out) (by have := HAL.out; have := G6.out; omega) (by omega) (by omega)).mono ?_
  rintro e wt3 ⟨rfl, ha6, _, hW⟩
  have m0 := Aside0.mk (Below.trans (show Below w.heap.size w _ from by repeat (first | (with_reducible first | exact HB.out | apply below_alloc | apply pw_below_drewN | apply below_drew1) | exact HB.out)) (hW _ G6.out))
  have m1 := Aside0.mk (((hW (g1 + 1) Ng1g6.out).block g1 (Nat.lt_succ_self _)).trans (by (with_reducible repeat (first | refine blk_drewN ?_ _ | refine blk_drew ?_ | refine blk_alloc ?_ _)); exact B1.out))
  have m2 := Aside0.mk (((hW (g2 + 1) Ng2g6.out).block g2 (Nat.lt_succ_self _)).trans (by (with_reducible repeat (first | refine blk_drewN ?_ _ | refine blk_drew ?_ | refine blk_alloc ?_ _)); exact B2.out))
  have m3 := Aside0.mk (show wt3.heap[g6]? = some (.cells #[.int .i64 12] 3 (0, 0)) from ha6)
  clear HB B1 B2 A6 ha6 hW
  have HB := m0
  have B1 := m1
  have B2 := m2
  have A6 := m3
  clear m0 m1 m2 m3
  obtain ⟨n3, hn3⟩ : ∃ n, frNum 4 8 l0 = n := ⟨_, rfl⟩
  have hnl3 : n3 < 4294967296 := by rw [← hn3]; exact Nat.lt_of_lt_of_eq (frNum_lt (fun i => by have := HU.out i; omega) 4 8) (by decide)
  rw [hn3]
  dsimp only
  go_wp2_with (fail)
  refine (fr_take g1 g6 4 12 A 128 c0 l0 _ ((blk_cell (by (with_reducible repeat (first | refine blk_drewN ?_ _ | refine blk_drew ?_ | refine blk_alloc ?_ _)); exact B1.out) 0).trans rfl) (by (with_reducible repeat (first | refine blk_drewN ?_ _ | refine blk_drew ?_ | refine blk_alloc ?_ _)); exact A6.out) (C_cells (Kd.C_below HC.out (by repeat (first | (with_reducible first | exact HB.out | apply below_alloc | apply pw_below_drewN | apply below_drew1) | exact HB.out))) HL.out) rfl HU.out (Nat.ne_of_lt Ng1g6.out) (by have := HAL.out; have := G6.out; omega) (by omega) (by omega)).mono ?_
  rintro e wt4 ⟨rfl, ha6, _, hW⟩
  have m0 := Aside0.mk (Below.trans (show Below w.heap.size w _ from by repeat (first | (with_reducible first | exact HB.out | apply below_alloc | apply pw_below_drewN | apply below_drew1) | exact HB.out)) (hW _ G6.out))
  have m1 := Aside0.mk (((hW (g1 + 1) Ng1g6.out).block g1 (Nat.lt_succ_self _)).trans (by (with_reducible repeat (first | refine blk_drewN ?_ _ | refine blk_drew ?_ | refine blk_alloc ?_ _)); exact B1.out))
  have m2 := Aside0.mk (((hW (g2 + 1) Ng2g6.out).block g2 (Nat.lt_succ_self _)).trans (by (with_reducible repeat (first | refine blk_drewN ?_ _ | refine blk_drew ?_ | refine blk_alloc ?_ _)); exact B2.out))
  have m3 := Aside0.mk (show wt4.heap[g6]? = some (.cells #[.int .i64 16] 3 (0, 0)) from ha6)
  clear HB B1 B2 A6 ha6 hW
  have HB := m0
  have B1 := m1
  have B2 := m2
  have A6 := m3
  clear m0 m1 m2 m3
  obtain ⟨n4, hn4⟩ : ∃ n, frNum 4 12 l0 = n := ⟨_, rfl⟩
  have hnl4 : n4 < 4294967296 := by rw [← hn4]; exact Nat.lt_of_lt_of_eq (frNum_lt (fun i => by have := HU.out i; omega) 4 12) (by decide)
  rw [hn4]
  dsimp only
  have hc1 := blk_cell B1.out 0; have hf1 := blk_frozen B1.out 0; simp only [List.getElem?_toArray, List.getElem?_cons_zero, List.getElem?_cons_succ] at hc1
  have hc20 := blk_cell B2.out 0; have hc21 := blk_cell B2.out 1; have hc22 := blk_cell B2.out 2; have hf2 := blk_frozen B2.out 0; have hf21 := blk_frozen B2.out 1; have hf22 := blk_frozen B2.out 2; simp only [List.getElem?_toArray, List.getElem?_cons_zero, List.getElem?_cons_succ] at hc20 hc21 hc22
  unfold frDec1 at h
  rw [hn0, hn1, hn2, hn3, hn4] at h
  obtain ⟨q, hq, h⟩ := Option.bind_eq_some_iff.mp h
  cases q with
  | false =>
    rw [if_neg (by decide)] at h
    unfold frBad at h; simp only [Option.some.injEq, Prod.mk.injEq] at h; obtain ⟨rfl, rfl, rfl, rfl, rfl, rfl⟩ := h
    go_wp2_with (first | ((with_reducible refine gate_callee (f := 19) rfl ?_); refine goesL_ (some 40) rfl rfl Try.func19 (by kernel_rfl) rfl #[.int .i64 (n0 : Int)] rfl (by (try simp only [List.map_toArray, List.map_cons, List.map_nil]); first | done | rfl) ?_; (with_reducible refine (frame_known.calls (n0 : Int) false _ hq).mono ?_); rintro e w5 ⟨rfl, hd⟩; refine ⟨_, rfl, ?_⟩; obtain ⟨dn, rfl⟩ := hd))
    refine bodyPost_ret (results_list (rs := [.cell 2 23, .tmp 3, .tmp 4, .tmp 5]) rfl (by simp) (.cell g2 23 #[.int .i64 0, .int .i64 0, .int .i64 0] (0, 0) _ rfl (by (with_reducible repeat (first | refine blk_drewN ?_ _ | refine blk_drew ?_ | refine blk_alloc ?_ _)); refine blk_put (cs := #[.int .i64 0, .int .i64 0, .int .i64 0]) ?_ 2 _ rfl; (with_reducible repeat (first | refine blk_drewN ?_ _ | refine blk_drew ?_ | refine blk_alloc ?_ _)); refine blk_put (cs := #[.int .i64 0, .int .i64 0, .int .i64 0]) ?_ 1 _ rfl; (with_reducible repeat (first | refine blk_drewN ?_ _ | refine blk_drew ?_ | refine blk_alloc ?_ _)); refine blk_put (cs := #[.int .i64 0, .int .i64 0, .int .i64 0]) ?_ 0 _ rfl; (with_reducible repeat (first | refine blk_drewN ?_ _ | refine blk_drew ?_ | refine blk_alloc ?_ _)); exact B2.out) Try.underlying23 rfl (by kernel_rfl) (.tmp (.tmp (.tmp .nil))))) rfl ?_
    exact ⟨_, rfl, Kd.R_nil _ _ _ _ _, by repeat (first | (with_reducible first | exact HB.out | apply below_alloc | apply pw_below_drewN | apply below_drew1 | refine below_set ?_ G2.out) | exact HB.out)⟩
  | true =>
    rw [if_pos rfl] at h
    by_cases c1 : 108 < n1
    · rw [if_pos c1] at h
      unfold frBad at h; simp only [Option.some.injEq, Prod.mk.injEq] at h; obtain ⟨rfl, rfl, rfl, rfl, rfl, rfl⟩ := h
      have hb1 : decide ((108 : Int) < (n1 : Int)) = true := decide_eq_true (by omega); have hb1' : decide (108 < n1) = true := decide_eq_true (by omega)
      go_wp2_with (first | ((with_reducible refine gate_callee (f := 19) rfl ?_); refine goesL_ (some 40) rfl rfl Try.func19 (by kernel_rfl) rfl #[.int .i64 (n0 : Int)] rfl (by (try simp only [List.map_toArray, List.map_cons, List.map_nil]); first | done | rfl) ?_; (with_reducible refine (frame_known.calls (n0 : Int) true _ hq).mono ?_); rintro e w5 ⟨rfl, hd⟩; refine ⟨_, rfl, ?_⟩; obtain ⟨dn, rfl⟩ := hd))
      refine bodyPost_ret (results_list (rs := [.cell 2 23, .tmp 3, .tmp 4, .tmp 5]) rfl (by simp) (.cell g2 23 #[.int .i64 0, .int .i64 0, .int .i64 0] (0, 0) _ rfl (by (with_reducible repeat (first | refine blk_drewN ?_ _ | refine blk_drew ?_ | refine blk_alloc ?_ _)); refine blk_put (cs := #[.int .i64 0, .int .i64 0, .int .i64 0]) ?_ 2 _ rfl; (with_reducible repeat (first | refine blk_drewN ?_ _ | refine blk_drew ?_ | refine blk_alloc ?_ _)); refine blk_put (cs := #[.int .i64 0, .int .i64 0, .int .i64 0]) ?_ 1 _ rfl; (with_reducible repeat (first | refine blk_drewN ?_ _ | refine blk_drew ?_ | refine blk_alloc ?_ _)); refine blk_put (cs := #[.int .i64 0, .int .i64 0, .int .i64 0]) ?_ 0 _ rfl; (with_reducible repeat (first | refine blk_drewN ?_ _ | refine blk_drew ?_ | refine blk_alloc ?_ _)); exact B2.out) Try.underlying23 rfl (by kernel_rfl) (.tmp (.tmp (.tmp .nil))))) rfl ?_
      exact ⟨_, rfl, Kd.R_nil _ _ _ _ _, by repeat (first | (with_reducible first | exact HB.out | apply below_alloc | apply pw_below_drewN | apply below_drew1 | refine below_set ?_ G2.out) | exact HB.out)⟩
    rw [if_neg c1] at h
    have hb1 : decide ((108 : Int) < (n1 : Int)) = false := decide_eq_false (by omega); have hb1' : decide (108 < n1) = false := decide_eq_false (by omega)
    by_cases c2 : 2147483647 < n2
    · rw [if_pos c2] at h
      unfold frBad at h; simp only [Option.some.injEq, Prod.mk.injEq] at h; obtain ⟨rfl, rfl, rfl, rfl, rfl, rfl⟩ := h
      have hb2 : decide ((2147483647 : Int) < (n2 : Int)) = true := decide_eq_true (by omega); have hb2' : decide (2147483647 < n2) = true := decide_eq_true (by omega)
      go_wp2_with (first | ((with_reducible refine gate_callee (f := 19) rfl ?_); refine goesL_ (some 40) rfl rfl Try.func19 (by kernel_rfl) rfl #[.int .i64 (n0 : Int)] rfl (by (try simp only [List.map_toArray, List.map_cons, List.map_nil]); first | done | rfl) ?_; (with_reducible refine (frame_known.calls (n0 : Int) true _ hq).mono ?_); rintro e w5 ⟨rfl, hd⟩; refine ⟨_, rfl, ?_⟩; obtain ⟨dn, rfl⟩ := hd))
      refine bodyPost_ret (results_list (rs := [.cell 2 23, .tmp 3, .tmp 4, .tmp 5]) rfl (by simp) (.cell g2 23 #[.int .i64 0, .int .i64 0, .int .i64 0] (0, 0) _ rfl (by (with_reducible repeat (first | refine blk_drewN ?_ _ | refine blk_drew ?_ | refine blk_alloc ?_ _)); refine blk_put (cs := #[.int .i64 0, .int .i64 0, .int .i64 0]) ?_ 2 _ rfl; (with_reducible repeat (first | refine blk_drewN ?_ _ | refine blk_drew ?_ | refine blk_alloc ?_ _)); refine blk_put (cs := #[.int .i64 0, .int .i64 0, .int .i64 0]) ?_ 1 _ rfl; (with_reducible repeat (first | refine blk_drewN ?_ _ | refine blk_drew ?_ | refine blk_alloc ?_ _)); refine blk_put (cs := #[.int .i64 0, .int .i64 0, .int .i64 0]) ?_ 0 _ rfl; (with_reducible repeat (first | refine blk_drewN ?_ _ | refine blk_drew ?_ | refine blk_alloc ?_ _)); exact B2.out) Try.underlying23 rfl (by kernel_rfl) (.tmp (.tmp (.tmp .nil))))) rfl ?_
      exact ⟨_, rfl, Kd.R_nil _ _ _ _ _, by repeat (first | (with_reducible first | exact HB.out | apply below_alloc | apply pw_below_drewN | apply below_drew1 | refine below_set ?_ G2.out) | exact HB.out)⟩
    rw [if_neg c2] at h
    have hb2 : decide ((2147483647 : Int) < (n2 : Int)) = false := decide_eq_false (by omega); have hb2' : decide (2147483647 < n2) = false := decide_eq_false (by omega)
    by_cases c3 : 2147483647 < n3
    · rw [if_pos c3] at h
      unfold frBad at h; simp only [Option.some.injEq, Prod.mk.injEq] at h; obtain ⟨rfl, rfl, rfl, rfl, rfl, rfl⟩ := h
      have hb3 : decide ((2147483647 : Int) < (n3 : Int)) = true := decide_eq_true (by omega); have hb3' : decide (2147483647 < n3) = true := decide_eq_true (by omega)
      go_wp2_with (first | ((with_reducible refine gate_callee (f := 19) rfl ?_); refine goesL_ (some 40) rfl rfl Try.func19 (by kernel_rfl) rfl #[.int .i64 (n0 : Int)] rfl (by (try simp only [List.map_toArray, List.map_cons, List.map_nil]); first | done | rfl) ?_; (with_reducible refine (frame_known.calls (n0 : Int) true _ hq).mono ?_); rintro e w5 ⟨rfl, hd⟩; refine ⟨_, rfl, ?_⟩; obtain ⟨dn, rfl⟩ := hd))
      refine bodyPost_ret (results_list (rs := [.cell 2 23, .tmp 3, .tmp 4, .tmp 5]) rfl (by simp) (.cell g2 23 #[.int .i64 0, .int .i64 0, .int .i64 0] (0, 0) _ rfl (by (with_reducible repeat (first | refine blk_drewN ?_ _ | refine blk_drew ?_ | refine blk_alloc ?_ _)); refine blk_put (cs := #[.int .i64 0, .int .i64 0, .int .i64 0]) ?_ 2 _ rfl; (with_reducible repeat (first | refine blk_drewN ?_ _ | refine blk_drew ?_ | refine blk_alloc ?_ _)); refine blk_put (cs := #[.int .i64 0, .int .i64 0, .int .i64 0]) ?_ 1 _ rfl; (with_reducible repeat (first | refine blk_drewN ?_ _ | refine blk_drew ?_ | refine blk_alloc ?_ _)); refine blk_put (cs := #[.int .i64 0, .int .i64 0, .int .i64 0]) ?_ 0 _ rfl; (with_reducible repeat (first | refine blk_drewN ?_ _ | refine blk_drew ?_ | refine blk_alloc ?_ _)); exact B2.out) Try.underlying23 rfl (by kernel_rfl) (.tmp (.tmp (.tmp .nil))))) rfl ?_
      exact ⟨_, rfl, Kd.R_nil _ _ _ _ _, by repeat (first | (with_reducible first | exact HB.out | apply below_alloc | apply pw_below_drewN | apply below_drew1 | refine below_set ?_ G2.out) | exact HB.out)⟩
    rw [if_neg c3] at h
    have hb3 : decide ((2147483647 : Int) < (n3 : Int)) = false := decide_eq_false (by omega); have hb3' : decide (2147483647 < n3) = false := decide_eq_false (by omega)
    by_cases c4 : 2147483647 < n4
    · rw [if_pos c4] at h
      unfold frBad at h; simp only [Option.some.injEq, Prod.mk.injEq] at h; obtain ⟨rfl, rfl, rfl, rfl, rfl, rfl⟩ := h
      have hb4 : decide ((2147483647 : Int) < (n4 : Int)) = true := decide_eq_true (by omega); have hb4' : decide (2147483647 < n4) = true := decide_eq_true (by omega)
      go_wp2_with (first | ((with_reducible refine gate_callee (f := 19) rfl ?_); refine goesL_ (some 40) rfl rfl Try.func19 (by kernel_rfl) rfl #[.int .i64 (n0 : Int)] rfl (by (try simp only [List.map_toArray, List.map_cons, List.map_nil]); first | done | rfl) ?_; (with_reducible refine (frame_known.calls (n0 : Int) true _ hq).mono ?_); rintro e w5 ⟨rfl, hd⟩; refine ⟨_, rfl, ?_⟩; obtain ⟨dn, rfl⟩ := hd))
      refine bodyPost_ret (results_list (rs := [.cell 2 23, .tmp 3, .tmp 4, .tmp 5]) rfl (by simp) (.cell g2 23 #[.int .i64 0, .int .i64 0, .int .i64 0] (0, 0) _ rfl (by (with_reducible repeat (first | refine blk_drewN ?_ _ | refine blk_drew ?_ | refine blk_alloc ?_ _)); refine blk_put (cs := #[.int .i64 0, .int .i64 0, .int .i64 0]) ?_ 2 _ rfl; (with_reducible repeat (first | refine blk_drewN ?_ _ | refine blk_drew ?_ | refine blk_alloc ?_ _)); refine blk_put (cs := #[.int .i64 0, .int .i64 0, .int .i64 0]) ?_ 1 _ rfl; (with_reducible repeat (first | refine blk_drewN ?_ _ | refine blk_drew ?_ | refine blk_alloc ?_ _)); refine blk_put (cs := #[.int .i64 0, .int .i64 0, .int .i64 0]) ?_ 0 _ rfl; (with_reducible repeat (first | refine blk_drewN ?_ _ | refine blk_drew ?_ | refine blk_alloc ?_ _)); exact B2.out) Try.underlying23 rfl (by kernel_rfl) (.tmp (.tmp (.tmp .nil))))) rfl ?_
      exact ⟨_, rfl, Kd.R_nil _ _ _ _ _, by repeat (first | (with_reducible first | exact HB.out | apply below_alloc | apply pw_below_drewN | apply below_drew1 | refine below_set ?_ G2.out) | exact HB.out)⟩
    rw [if_neg c4] at h
    have hb4 : decide ((2147483647 : Int) < (n4 : Int)) = false := decide_eq_false (by omega); have hb4' : decide (2147483647 < n4) = false := decide_eq_false (by omega)
    go_wp2_with (first | ((with_reducible refine gate_callee (f := 19) rfl ?_); refine goesL_ (some 40) rfl rfl Try.func19 (by kernel_rfl) rfl #[.int .i64 (n0 : Int)] rfl (by (try simp only [List.map_toArray, List.map_cons, List.map_nil]); first | done | rfl) ?_; (with_reducible refine (frame_known.calls (n0 : Int) true _ hq).mono ?_); rintro e w5 ⟨rfl, hd⟩; refine ⟨_, rfl, ?_⟩; obtain ⟨dn, rfl⟩ := hd))
    have HD := Aside0.mk h
    clear h
    have hcs := C_cells (Kd.C_below HC.out (show Below w.heap.size w wt4 from HB.out)) HL.out
    have HCS := Aside0.mk hcs
    clear hcs
    go_loopg [16, 69] (124 - (16 + n1)) (fun kq v16 v69 w' => ∃ (j : Nat), v69 = .int .i64 (j : Int) ∧ Aside0 (kq + j = 124 - (16 + n1)) ∧ Aside0 (∀ i, i < j → rd l0 ((16 + n1 + i : Nat) : Int) = 0) ∧ w' = wt4.drewN dn)
    case atStart => exact ⟨0, rfl, ⟨rfl⟩, ⟨fun i hi => absurd hi (Nat.not_lt_zero _)⟩, rfl⟩
    case round =>
      obtain ⟨j, rfl, HK, HZ, rfl⟩ := hrel
      cases gk with
      | zero =>
        have ej : j = 124 - (16 + n1) := by have := HK.out; omega
        subst ej
        have h := HD.out
        have hz := zeros_all (a := 16 + n1) HL.out HZ.out
        unfold frDec2 at h
        rw [hn0, hn1, hn2, hn3, hn4, if_pos hz] at h
        clear HD HZ hz
        have hc6 := blk_cell A6.out 0
        have hf6 := blk_frozen A6.out 0
        simp only [List.getElem?_toArray, List.getElem?_cons_zero, List.getElem?_cons_succ] at hc6
        go_wp2_with (fail)
        have m0 := Aside0.mk (blk_put (cs' := #[.int .i64 124]) (by (with_reducible repeat (first | refine blk_drewN ?_ _ | refine blk_drew ?_ | refine blk_alloc ?_ _)); exact A6.out) 0 (.int .i64 124) rfl : ((wt4.drewN dn).setCell ⟨g6, 0, none⟩ (.int .i64 124)).heap[g6]? = _)
        have m1 := Aside0.mk (blk_far (p := ⟨g6, 0, none⟩) (by (with_reducible repeat (first | refine blk_drewN ?_ _ | refine blk_drew ?_ | refine blk_alloc ?_ _)); exact B1.out) (Nat.ne_of_lt Ng1g6.out) (.int .i64 124) : ((wt4.drewN dn).setCell ⟨g6, 0, none⟩ (.int .i64 124)).heap[g1]? = _)
        have m2 := Aside0.mk (blk_far (p := ⟨g6, 0, none⟩) (by (with_reducible repeat (first | refine blk_drewN ?_ _ | refine blk_drew ?_ | refine blk_alloc ?_ _)); exact B2.out) (Nat.ne_of_lt Ng2g6.out) (.int .i64 124) : ((wt4.drewN dn).setCell ⟨g6, 0, none⟩ (.int .i64 124)).heap[g2]? = _)
        have m3 := Aside0.mk (show Below w.heap.size w ((wt4.drewN dn).setCell ⟨g6, 0, none⟩ (.int .i64 124)) from by repeat (first | (with_reducible first | exact HB.out | apply below_alloc | apply pw_below_drewN | apply below_drew1 | refine below_set ?_ G6.out) | exact HB.out))
        clear HB B1 B2 A6 hc6 hf6 HCS
        clear hc1 hf1 hc20 hc21 hc22 hf2 hf21 hf22
        have A6 := m0
        have B1 := m1
        have B2 := m2
        have HB := m3
        clear m0 m1 m2 m3
        generalize (wt4.drewN dn).setCell ⟨g6, 0, none⟩ (.int .i64 124) = wb at A6 B1 B2 HB ⊢
        obtain ⟨n5, hn5⟩ : ∃ n, frNum 4 124 l0 = n := ⟨_, rfl⟩
        rw [hn5] at h
        obtain ⟨s, hs, h⟩ := Option.bind_eq_some_iff.mp h
        have HSUM := Aside0.mk hs
        clear hs
        have hc1 := blk_cell B1.out 0
        have hf1 := blk_frozen B1.out 0
        simp only [List.getElem?_toArray, List.getElem?_cons_zero, List.getElem?_cons_succ] at hc1
        have m0 := Aside0.mk (show wb.drew.heap[g6]? = _ from A6.out)
        have m1 := Aside0.mk (show wb.drew.heap[g1]? = _ from B1.out)
        have m2 := Aside0.mk (show wb.drew.heap[g2]? = _ from B2.out)
        have m3 := Aside0.mk (show Below w.heap.size w wb.drew from by repeat (first | (with_reducible first | exact HB.out | apply below_alloc | apply pw_below_drewN | apply below_drew1) | exact HB.out))
        clear A6 B1 B2 HB hc1 hf1
        have A6 := m0
        have B1 := m1
        have B2 := m2
        have HB := m3
        clear m0 m1 m2 m3
        refine start_ (n := 6) (S := fun w' => w'.cell? ⟨g1, 0, none⟩ = some (.slice (some A) 128 c0)) (ds := []) #[false, false, false, false, false, false] (by kernel_rfl) rfl rfl ((blk_cell B1.out 0).trans rfl) (fun hHeld => ?_)
        generalize wb.drew = wc at A6 B1 B2 HB hHeld ⊢
        refine pure_ (i := 0) (N := some 77) (v := ?_) (a' := ?_) #[true, false, false, false, false, false] rfl rfl (by kernel_rfl) (fun _ _ _ h => h) (Or.inl ⟨by rfl, ?_⟩) ?_ ?_
        rotate_left
        · intro w'
          go_simp
          with_reducible rfl
        rotate_left
        · simp only [Act.put, List.setIfInBounds_toArray, List.set_cons_zero, List.set_cons_succ, i64_w, i32_w]
          rfl
        refine take_ (i := 2) (N := some 79) (v := ?_) (a' := ?_) #[true, false, true, false, false, false] rfl rfl (by kernel_rfl) (fun _ _ _ h => h) (Or.inl ⟨by rfl, ?_⟩) hHeld ?_ ?_
        rotate_left
        · rintro w' s0
          go_simp
          with_reducible rfl
        rotate_left
        · simp only [Act.put, List.setIfInBounds_toArray, List.set_cons_zero, List.set_cons_succ, i64_w, i32_w]
          rfl
        refine pure_ (i := 3) (N := some 80) (v := ?_) (a' := ?_) #[true, false, true, true, false, false] rfl rfl (by kernel_rfl) (fun _ _ _ h => h) (Or.inl ⟨by rfl, ?_⟩) ?_ ?_
        rotate_left
        · intro w'
          go_simp
          rw [if_pos (show (124 : Int) ≤ (c0 : Int) by omega)]
        rotate_left
        · simp only [Act.put, List.setIfInBounds_toArray, List.set_cons_zero, List.set_cons_succ, i64_w, i32_w]
          rfl
        refine one_ (i := 1) (N := some 78) #[true, true, true, true, false, false] rfl rfl (by kernel_rfl) (by decide) (fun K hK => ?_)
        refine call_ 25 #[.int .i64 4, .pointer (some ⟨g1, 0, none⟩), .pointer (some ⟨g6, 0, none⟩)] (by rfl) rfl ?hrun ?_
        case hrun =>
          have he := enters_ (P := Try.prog) Try.func25 (by kernel_rfl) rfl #[.int .i64 4, .pointer (some ⟨g1, 0, none⟩), .pointer (some ⟨g6, 0, none⟩)] wc
          unfold execOp
          simp [resolve, Deferred.ofValue, invoke, Act.eval, he]
        refine (fr_take g1 g6 4 124 A 128 c0 l0 _ ((blk_cell (by (with_reducible repeat (first | refine blk_drewN ?_ _ | refine blk_drew ?_ | refine blk_alloc ?_ _)); exact B1.out) 0).trans rfl) (by (with_reducible repeat (first | refine blk_drewN ?_ _ | refine blk_drew ?_ | refine blk_alloc ?_ _)); exact A6.out) (C_cells (Kd.C_below HC.out (by repeat (first | (with_reducible first | exact HB.out | apply below_alloc | apply pw_below_drewN | apply below_drew1 | refine below_set ?_ G6.out) | exact HB.out))) HL.out) rfl HU.out (Nat.ne_of_lt Ng1g6.out) (by have := HAL.out; have := G6.out; omega) (by decide) (by decide)).mono ?_
        rintro e wz ⟨rfl, ha6, _, hW⟩
        refine ⟨_, rfl, ?_⟩
        have m0 := Aside0.mk (Below.trans (show Below w.heap.size w _ from by repeat (first | (with_reducible first | exact HB.out | apply below_alloc | apply pw_below_drewN | apply below_drew1) | exact HB.out)) (hW _ G6.out))
        have m1 := Aside0.mk (((hW (g1 + 1) Ng1g6.out).block g1 (Nat.lt_succ_self _)).trans (by (with_reducible repeat (first | refine blk_drewN ?_ _ | refine blk_drew ?_ | refine blk_alloc ?_ _)); exact B1.out))
        have m2 := Aside0.mk (((hW (g2 + 1) Ng2g6.out).block g2 (Nat.lt_succ_self _)).trans (by (with_reducible repeat (first | refine blk_drewN ?_ _ | refine blk_drew ?_ | refine blk_alloc ?_ _)); exact B2.out))
        clear HB B1 B2 A6 ha6 hW
        have HB := m0
        have B1 := m1
        have B2 := m2
        clear m0 m1 m2
        rw [hn5]
        refine hK.out _ _ ((blk_cell B1.out 0).trans rfl) (fun hHeld => ?_)
        clear hK K
        refine norm_ (a' := ?_) ?_ ?_
        rotate_left
        · show Act.put _ (some 78) _ = _
          simp only [Act.put, List.setIfInBounds_toArray, List.set_cons_zero, List.set_cons_succ, i64_w, i32_w]
          rfl
        refine one_ (i := 4) (N := some 81) #[true, true, true, true, true, false] rfl rfl (by kernel_rfl) (by decide) (fun K hK => ?_)
        refine goes_ Try.func21 (by kernel_rfl) rfl #[.slice (some A) 124 c0] (by rfl) rfl rfl (by (try simp only [List.map_toArray, List.map_cons, List.map_nil]); first | done | rfl) ?_
        refine (fr_of2 A c0 l0 HL.out hc128 s HSUM.out _ (C_cells (Kd.C_below HC.out (by repeat (first | (with_reducible first | exact HB.out | apply below_alloc | apply pw_below_drewN | apply below_drew1 | refine below_set ?_ G6.out) | exact HB.out))) HL.out)).mono ?_
        rintro e wy ⟨rfl, hb⟩
        refine ⟨_, rfl, ?_⟩
        have m0 := Aside0.mk (below_step (by repeat (first | (with_reducible first | exact HB.out | apply below_alloc | apply pw_below_drewN | apply below_drew1) | exact HB.out)) hb)
        have m1 := Aside0.mk (blk_below (g := g1) (o := (.cells #[.slice (some A) 128 c0] 24 (0, 0))) (by (with_reducible repeat (first | refine blk_drewN ?_ _ | refine blk_drew ?_ | refine blk_alloc ?_ _)); exact B1.out) hb)
        have m2 := Aside0.mk (blk_below (g := g2) (o := (.cells #[.int .i64 0, .int .i64 0, .int .i64 0] 23 (0, 0))) (by (with_reducible repeat (first | refine blk_drewN ?_ _ | refine blk_drew ?_ | refine blk_alloc ?_ _)); exact B2.out) hb)
        clear HB B1 B2 hb
        have HB := m0
        have B1 := m1
        have B2 := m2
        clear m0 m1 m2
        refine hK.out _ _ ((blk_cell B1.out 0).trans rfl) (fun hHeld => ?_)
        clear hK K
        refine norm_ (a' := ?_) ?_ ?_
        rotate_left
        · show Act.put _ (some 81) _ = _
          simp only [Act.put, List.setIfInBounds_toArray, List.set_cons_zero, List.set_cons_succ, i64_w, i32_w]
          rfl
        refine pure_ (i := 5) (N := some 82) (v := ?_) (a' := ?_) #[true, true, true, true, true, true] rfl rfl (by kernel_rfl) (fun _ _ _ h => h) (Or.inl ⟨by rfl, ?_⟩) ?_ ?_
        rotate_left
        · intro w'
          go_simp
          with_reducible rfl
        rotate_left
        · simp only [Act.put, List.setIfInBounds_toArray, List.set_cons_zero, List.set_cons_succ, i64_w, i32_w]
          rfl
        refine done_ (by kernel_rfl) ?_
        have hc1 := blk_cell B1.out 0; have hf1 := blk_frozen B1.out 0; simp only [List.getElem?_toArray, List.getElem?_cons_zero, List.getElem?_cons_succ] at hc1
        all_goals
          have hc20 := blk_cell B2.out 0; have hc21 := blk_cell B2.out 1; have hc22 := blk_cell B2.out 2; have hf2 := blk_frozen B2.out 0; have hf21 := blk_frozen B2.out 1; have hf22 := blk_frozen B2.out 2; simp only [List.getElem?_toArray, List.getElem?_cons_zero, List.getElem?_cons_succ] at hc20 hc21 hc22
          by_cases c5 : ((n5 : Nat) : Int) = s
          · subst c5
            rw [if_pos rfl] at h
            simp only [Option.some.injEq, Prod.mk.injEq] at h
            obtain ⟨rfl, rfl, rfl, rfl, hr5, rfl⟩ := h
            have HR5 := Aside0.mk hr5
            clear hr5
            have hne5 : (((n5 : Nat) : Int) != ((n5 : Nat) : Int)) = false := by simp
            go_wp2_with (first | ((with_reducible refine gate_dst (N := 92) rfl ?_); refine Kd.R_lit (Kd.int .u8) _ 5 ?hg (N := 92) ?hd (xs := ([] : List Int)) (inner := []) (ok := fun _ => True) (okp := fun _ => True) ?hr ?hp (fun _ hk => hk) trivial (Below.refl _ _) (Nat.le_refl _) (by simp) ?_; (case hd => rfl); (case hg => rfl); (case hr => first | (go_simp; done) | (go_simp; rfl)); (case hp => exact (Reps.none _ _)); intro v92 w92 ho hb hg_ hnew_; clear hg_ hnew_; have n0_ := Aside0.mk (Kd.R_lower ho (below_size (by repeat (first | (with_reducible first | exact HB.out | apply below_alloc | apply pw_below_drewN | apply below_drew1) | exact HB.out)))); have m0 := Aside0.mk (below_step (by repeat (first | (with_reducible first | exact HB.out | apply below_alloc | apply pw_below_drewN | apply below_drew1) | exact HB.out)) hb); have m1 := Aside0.mk (blk_below (g := g1) (o := (.cells #[.slice (some A) 128 c0] 24 (0, 0))) (by (with_reducible repeat (first | refine blk_drewN ?_ _ | refine blk_drew ?_ | refine blk_alloc ?_ _)); exact B1.out) hb); have m2 := Aside0.mk (blk_below (g := g2) (o := (.cells #[.int .i64 0, .int .i64 0, .int .i64 0] 23 (0, 0))) (by (with_reducible repeat (first | refine blk_drewN ?_ _ | refine blk_drew ?_ | refine blk_alloc ?_ _)); exact B2.out) hb); clear hc1 hf1 hc20 hc21 hc22 hf2 hf21 hf22; clear HB B1 B2 hb ho; have HB := m0; have B1 := m1; have B2 := m2; have HO := n0_; clear m0 m1 m2 n0_; have hc1 := blk_cell B1.out 0; have hf1 := blk_frozen B1.out 0; simp only [List.getElem?_toArray, List.getElem?_cons_zero, List.getElem?_cons_succ] at hc1; have hc20 := blk_cell B2.out 0; have hc21 := blk_cell B2.out 1; have hc22 := blk_cell B2.out 2; have hf2 := blk_frozen B2.out 0; have hf21 := blk_frozen B2.out 1; have hf22 := blk_frozen B2.out 2; simp only [List.getElem?_toArray, List.getElem?_cons_zero, List.getElem?_cons_succ] at hc20 hc21 hc22) | ((with_reducible refine gate_builtin (b := .append) (xs := #[.tmp 92, .tmp 95]) rfl ?_); at_builtin; refine Kd.R_append_rows (Kd.int .u8) (w0 := w) w.heap.size rfl (.tmp 92) (.tmp 95) 24 5 (.int .u8 0) 1 rfl Try.underlying24 info5 rfl (by decide) (by omega) v92 ([] : List Int) ((l0.take (16 + n1)).drop 16) _ _ _ (fun _ => True) (fun _ => False) rfl rfl ?aO ?aR (fun _ _ h => h) (fun _ h => h.elim) ?aF ?aB ?aS ?aL ?_; (case aR => exact C_mid (C_cells (Kd.C_below HC.out (by repeat (first | (with_reducible first | exact HB.out | apply below_alloc | apply pw_below_drewN | apply below_drew1 | refine below_set ?_ G6.out) | exact HB.out))) HL.out) HL.out (by omega) (by omega) _ (by omega)); (case aB => exact (by repeat (first | (with_reducible first | exact HB.out | apply below_alloc | apply pw_below_drewN | apply below_drew1) | exact HB.out))); (case aF => exact (fun _ _ => trivial)); (case aO => exact (by (with_reducible repeat (first | apply Kd.R_alloc | apply Kd.R_drewN | apply Kd.R_drew)); exact HO.out)); (case aS => exact (below_size (by repeat (first | (with_reducible first | exact HB.out | apply below_alloc | apply pw_below_drewN | apply below_drew1) | exact HB.out)))); (case aL => simp only [List.length_nil]; omega); intro v96 w96 ho hb hg hat; have ho : Kd.R (Kd.int .u8) 5 w96 w.heap.size (fun _ => True) v96 ((l0.take (16 + n1)).drop 16) := ho; rw [HR5.out] at ho; have n0_ := Aside0.mk (blk_grown (g := g2) (o := (.cells #[.int .i64 0, .int .i64 0, .int .i64 0] 23 (0, 0))) (by (with_reducible repeat (first | refine blk_drewN ?_ _ | refine blk_drew ?_ | refine blk_alloc ?_ _)); exact B2.out) hg (Kd.R_ne HO.out (by (with_reducible repeat (first | refine blk_drewN ?_ _ | refine blk_drew ?_ | refine blk_alloc ?_ _)); exact B2.out) (by decide))); have n1_ := Aside0.mk ho; have n2_ := Aside0.mk hb; clear hc1 hf1 hc20 hc21 hc22 hf2 hf21 hf22; clear HB B1 B2 HO ho hb hg hat; have HB := n2_; have B2 := n0_; have HO := n1_; clear n0_ n1_ n2_; have hc20 := blk_cell B2.out 0; have hc21 := blk_cell B2.out 1; have hc22 := blk_cell B2.out 2; have hf2 := blk_frozen B2.out 0; have hf21 := blk_frozen B2.out 1; have hf22 := blk_frozen B2.out 2; simp only [List.getElem?_toArray, List.getElem?_cons_zero, List.getElem?_cons_succ] at hc20 hc21 hc22))
            refine bodyPost_ret (results_list (rs := [.cell 2 23, .tmp 3, .tmp 4, .tmp 5]) rfl (by simp) (.cell g2 23 #[.int .i64 (n2 : Int), .int .i64 (n3 : Int), .int .i64 (n4 : Int)] (0, 0) _ rfl (by (with_reducible repeat (first | refine blk_drewN ?_ _ | refine blk_drew ?_ | refine blk_alloc ?_ _)); refine blk_put (cs := #[.int .i64 (n2 : Int), .int .i64 (n3 : Int), .int .i64 0]) ?_ 2 _ rfl; (with_reducible repeat (first | refine blk_drewN ?_ _ | refine blk_drew ?_ | refine blk_alloc ?_ _)); refine blk_put (cs := #[.int .i64 (n2 : Int), .int .i64 0, .int .i64 0]) ?_ 1 _ rfl; (with_reducible repeat (first | refine blk_drewN ?_ _ | refine blk_drew ?_ | refine blk_alloc ?_ _)); refine blk_put (cs := #[.int .i64 0, .int .i64 0, .int .i64 0]) ?_ 0 _ rfl; (with_reducible repeat (first | refine blk_drewN ?_ _ | refine blk_drew ?_ | refine blk_alloc ?_ _)); exact B2.out) Try.underlying23 rfl (by kernel_rfl) (.tmp (.tmp (.tmp .nil))))) rfl ?_
            exact ⟨_, rfl, Kd.R_set (Kd.R_set (Kd.R_set HO.out B2.out (by decide) 0 _) (blk_set B2.out 0 _) (by decide) 1 _) (blk_set (blk_set B2.out 0 _) 1 _) (by decide) 2 _, by repeat (first | (with_reducible first | exact HB.out | apply below_alloc | apply pw_below_drewN | apply below_drew1 | refine below_set ?_ G2.out) | exact HB.out)⟩
          · rw [if_neg c5] at h
            unfold frBad at h; simp only [Option.some.injEq, Prod.mk.injEq] at h; obtain ⟨rfl, rfl, rfl, rfl, rfl, rfl⟩ := h
            have hne5 : (((n5 : Nat) : Int) != s) = true := by simp; exact c5
            go_wp2
            refine bodyPost_ret (results_list (rs := [.cell 2 23, .tmp 3, .tmp 4, .tmp 5]) rfl (by simp) (.cell g2 23 #[.int .i64 0, .int .i64 0, .int .i64 0] (0, 0) _ rfl (by (with_reducible repeat (first | refine blk_drewN ?_ _ | refine blk_drew ?_ | refine blk_alloc ?_ _)); refine blk_put (cs := #[.int .i64 0, .int .i64 0, .int .i64 0]) ?_ 2 _ rfl; (with_reducible repeat (first | refine blk_drewN ?_ _ | refine blk_drew ?_ | refine blk_alloc ?_ _)); refine blk_put (cs := #[.int .i64 0, .int .i64 0, .int .i64 0]) ?_ 1 _ rfl; (with_reducible repeat (first | refine blk_drewN ?_ _ | refine blk_drew ?_ | refine blk_alloc ?_ _)); refine blk_put (cs := #[.int .i64 0, .int .i64 0, .int .i64 0]) ?_ 0 _ rfl; (with_reducible repeat (first | refine blk_drewN ?_ _ | refine blk_drew ?_ | refine blk_alloc ?_ _)); exact B2.out) Try.underlying23 rfl (by kernel_rfl) (.tmp (.tmp (.tmp .nil))))) rfl ?_
            exact ⟨_, rfl, Kd.R_nil _ _ _ _ _, by repeat (first | (with_reducible first | exact HB.out | apply below_alloc | apply pw_below_drewN | apply below_drew1 | refine below_set ?_ G2.out) | exact HB.out)⟩
      | succ d =>
        have hj : j < 124 - (16 + n1) := by have := HK.out; omega
        have hjb : decide ((j : Int) < ((124 - (16 + n1) : Nat) : Int)) = true := decide_eq_true (by omega)
        have hjb' : decide (j < 124 - (16 + n1)) = true := decide_eq_true hj
        have hcl : wt4.cell? ((A.add (16 + n1)).add j) = some (.int .u8 (rd l0 ((16 + n1 + j : Nat) : Int))) := by
          rw [Addr.add_add]
          exact HCS.out (16 + n1 + j) (by omega)
        by_cases hz : rd l0 ((16 + n1 + j : Nat) : Int) = 0
        · rw [hz] at hcl
          go_wp2
          go_roundg d
          case measure => omega
          case rel => exact ⟨j + 1, by first | rfl | (rw [show wrap64 ((j : Int) + 1) = ((j + 1 : Nat) : Int) from by unfold wrap64; omega]), ⟨by have := HK.out; omega⟩, ⟨fun i hi => by rcases Nat.lt_succ_iff_lt_or_eq.1 hi with h1 | h1; exact HZ.out i h1; rw [h1]; exact hz⟩, rfl⟩
        · have h := HD.out
          unfold frDec2 at h
          rw [hn1, if_neg (zeros_not HL.out hj hz)] at h
          unfold frBad at h; simp only [Option.some.injEq, Prod.mk.injEq] at h; obtain ⟨rfl, rfl, rfl, rfl, rfl, rfl⟩ := h
          obtain ⟨x, hx⟩ : ∃ x, rd l0 ((16 + n1 + j : Nat) : Int) = x := ⟨_, rfl⟩
          rw [hx] at hcl hz
          have hz1 : (x == 0) = false := by simp; omega
          go_wp2
          refine bodyPost_ret (results_list (rs := [.cell 2 23, .tmp 3, .tmp 4, .tmp 5]) rfl (by simp) (.cell g2 23 #[.int .i64 0, .int .i64 0, .int .i64 0] (0, 0) _ rfl (by (with_reducible repeat (first | refine blk_drewN ?_ _ | refine blk_drew ?_ | refine blk_alloc ?_ _)); refine blk_put (cs := #[.int .i64 0, .int .i64 0, .int .i64 0]) ?_ 2 _ rfl; (with_reducible repeat (first | refine blk_drewN ?_ _ | refine blk_drew ?_ | refine blk_alloc ?_ _)); refine blk_put (cs := #[.int .i64 0, .int .i64 0, .int .i64 0]) ?_ 1 _ rfl; (with_reducible repeat (first | refine blk_drewN ?_ _ | refine blk_drew ?_ | refine blk_alloc ?_ _)); refine blk_put (cs := #[.int .i64 0, .int .i64 0, .int .i64 0]) ?_ 0 _ rfl; (with_reducible repeat (first | refine blk_drewN ?_ _ | refine blk_drew ?_ | refine blk_alloc ?_ _)); exact B2.out) Try.underlying23 rfl (by kernel_rfl) (.tmp (.tmp (.tmp .nil))))) rfl ?_
          exact ⟨_, rfl, Kd.R_nil _ _ _ _ _, by repeat (first | (with_reducible first | exact HB.out | apply below_alloc | apply pw_below_drewN | apply below_drew1 | refine below_set ?_ G2.out) | exact HB.out)⟩

def frame_Decode.f (l0 : List Int) : Option (Int × Int × Int × Int × List Int × Int) := if l0.length = 128 then (if rd l0 0 = 76 then (if bytesOk l0 = true then frDec1 l0 else none) else frBad) else frBad
theorem frame_Decode.calls (A0 : Option Addr) (c0 : Nat) (l0 : List Int) (r1 : Int) (r2 : Int) (r3 : Int) (r4 : Int) (r5 : List Int) (r6 : Int) (w : World) (hr0 : Kd.C (Kd.int .u8) w A0 l0.length l0) (hc0 : l0.length ≤ c0) (h : frame_Decode.f l0 = some (r1, r2, r3, r4, r5, r6)) :
    Calls Try.prog 15 #[.slice A0 l0.length c0] w fun e w' => ∃ v4_ : Value, e = .returned (.tuple #[.agg #[.int .i64 r1, .int .i64 r2, .int .i64 r3], .int .i64 r4, v4_, .int .i64 r6]) ∧ Kd.R (Kd.int .u8) 5 w' w.heap.size (fun _ => True) v4_ r5 ∧ Below w.heap.size w w' := by
  unfold frame_Decode.f at h
  split at h
  · rename_i hl
    split at h
    · rename_i h0
      split at h
      · rename_i hu
        exact fr_dec3 A0 c0 l0 w hr0 hc0 r1 r2 r3 r4 r5 r6 h hl h0 hu
      · cases h
    · rename_i h0
      unfold frBad at h
      simp only [Option.some.injEq, Prod.mk.injEq] at h
      obtain ⟨rfl, rfl, rfl, rfl, rfl, rfl⟩ := h
      exact fr_dec2 A0 c0 l0 w hr0 hc0 hl h0
  · rename_i hl
    unfold frBad at h
    simp only [Option.some.injEq, Prod.mk.injEq] at h
    obtain ⟨rfl, rfl, rfl, rfl, rfl, rfl⟩ := h
    exact fr_dec1 A0 c0 l0 w hr0 hc0 hl

/-! ### ours: sm_conv_any -/
theorem sm_below_freeze {w W : World} {g : Nat} (h : Below w.heap.size w W) (hg : w.heap.size ≤ g) (k n : Nat) : Below w.heap.size w (W.freeze ⟨g, k, none⟩ n) := by
  unfold World.freeze
  split
  · exact h
  · refine ⟨h.os, h.tape, h.output, by simpa using h.size, fun j hj => ?_⟩
    rw [← h.block j hj]
    simp only [Array.getElem?_modify]
    rw [if_neg (by show ¬ g = j; omega)]
theorem sm_cell_freeze (W : World) (g k n : Nat) (a : Addr) : (W.freeze ⟨g, k, none⟩ n).cell? a = W.cell? a := by
  unfold World.freeze
  split
  · rfl
  · unfold World.cell?
    simp only [Array.getElem?_modify]
    by_cases c : g = a.block
    · subst c
      cases W.heap[a.block]? with
      | none => simp
      | some o => cases o <;> simp
    · simp [c]
theorem sm_conv {W : World} {g n c : Nat} {cs : Array Value} (hg : W.heap[g]? = some (.cells cs 5 (0, 0))) :
    (convert 24 24 (.slice (some ⟨g, 0, none⟩) n c)).run Try.prog W = .ok (.slice (some ⟨g, 0, none⟩) n c) (W.freeze ⟨g, cs.size, none⟩ 1) := by
  have hsh : W.shape? g = some (5, cs.size) := by unfold World.shape?; rw [hg]
  simp [convert, run_underlying Try.underlying24, run_underlying Try.underlying5, markStringish, hsh]
/-- A row made of numbers, turned into its own type: what stands there may still be read. -/
theorem sm_conv_event {P : Program} {ops : Array Oper} {rest : List Oper} {o : Oper} {a : Act} {Q : Exit → Act → World → Prop} {w W : World} {ok : Nat → Prop} {A : Option Addr} {xs : List Int} {c : Nat} (hgd : o.guard = none) (HB : Below w.heap.size w W)
    (HR : (Kd.int .u8).R 5 W w.heap.size ok (.slice A xs.length c) xs) (hp : 0 < xs.length)
    (hrun : ∀ W', (convert 24 24 (.slice A xs.length c)).run P W = .ok (.slice A xs.length c) W' → (execOp a.eval o).run P W = .ok (.value (.slice A xs.length c)) W') (hP : P = Try.prog)
    (h : ∀ W', Below w.heap.size w W' → Kd.C (Kd.int .u8) W' A xs.length xs → (∀ A' n' ys, Kd.C (Kd.int .u8) W A' n' ys → Kd.C (Kd.int .u8) W' A' n' ys) → wpList P ops Q rest (a.put o.dst (.slice A xs.length c)) W') : wpList P ops Q (o :: rest) a W := by
  subst hP
  obtain ⟨g, cap, e, hb, hl, cs, hcs⟩ := Kd.R_form HR hp
  injection e with e1 e2 e3
  subst e1
  subst e3
  have hC : ∀ A' n' ys, Kd.C (Kd.int .u8) W A' n' ys → Kd.C (Kd.int .u8) (W.freeze ⟨g, cs.size, none⟩ 1) A' n' ys := fun A' n' ys h => by
    refine Kd.C_of_reads (d := 0) ?_
    obtain ⟨r1, r2, r3⟩ := Kd.reads_of_C (d := 0) h
    refine ⟨r1, r2, fun hn => ?_⟩
    obtain ⟨ad, ea, hc⟩ := r3 hn
    exact ⟨ad, ea, fun j hj => by rw [sm_cell_freeze]; exact hc j hj⟩
  exact Kd.event_run hgd (hrun _ (sm_conv hcs)) (h _ (sm_below_freeze HB hb _ _) (hC _ _ _ (Kd.R_reads' HR).2.2) hC)

/-! ### lienlaw04_awake: function 14 -/
-- BY HAND

theorem fa_cell {W : World} {A : Option Addr} {l : List Int} (h : Kd.C (Kd.int .u8) W A l.length l) (hl : l.length = 128) : ∃ ad, A = some ad ∧ W.cell? ad = some (.int .u8 (rd l 0)) := by
  obtain ⟨ad, e, _⟩ := h.2.2 (by omega)
  subst e
  have := C_cells h hl 0 (by decide)
  rw [show ad.add 0 = ad from by cases ad; first | rfl | simp [Addr.add]] at this
  exact ⟨ad, rfl, this⟩
def aw_S : List Int := ((frame_Encode.f 1 2 3 2 [120]).getD ([], 0)).1
theorem aw_e1 : frame_Encode.f 1 2 3 2 [120] = some (aw_S, 0) := by kernel_rfl
theorem aw_e2 : frame_Decode.f aw_S = some (1, 2, 3, 2, [120], 0) := by kernel_rfl
theorem aw_e3 : aw_S.length = 128 := by kernel_rfl
theorem aw_e4 : rd aw_S 0 = 76 := by kernel_rfl
theorem aw_str : strOfNums ([120] : List Int) = (⟨#[120]⟩ : ByteArray) := by kernel_rfl
def lienlaw04_awake.f : Option Bool := some true
set_option maxHeartbeats 2000000 in
set_option maxRecDepth 100000 in
theorem aw_walk (w : World) (y9 y16 S : List Int) (Y9 : Aside0 (y9 = [120]))
    (E1 : Aside0 (frame_Encode.f 1 2 3 2 y9 = some (S, 0))) (E2 : Aside0 (frame_Decode.f S = some (1, 2, 3, 2, y16, 0))) (E3 : Aside0 (S.length = 128)) (E4 : Aside0 (rd S 0 = 76)) (E8 : Aside0 (strOfNums y16 = (⟨#[120]⟩ : ByteArray))) :
    Calls Try.prog 14 #[] w fun e w' => e = .returned (.bool true) ∧ Below w.heap.size w w' := by
  have hu23 := Try.underlying23
  have HB := Aside0.mk (Below.refl w.heap.size w)
  go_enter Try.func14, Try.ntmps14
  go_wp2_with (first | ((with_reducible refine gate_dst (N := 9) rfl ?_); (try (refine gate_guard (by rfl) ?_; dsimp only)); refine Kd.R_lit (Kd.int .u8) _ 5 ?hg (N := 9) ?hd (xs := ([120] : List Int)) (inner := [.int .u8 120]) (ok := fun _ => True) (okp := fun _ => True) ?hr ?hp (fun _ hk => hk) trivial (Below.refl _ _) (Nat.le_refl _) (by simp) ?_; (case hd => rfl); (case hg => rfl); (case hr => first | (go_simp; done) | (go_simp; rfl)); (case hp => exact (Reps.one (show Kd.M (Kd.int .u8) _ _ _ 120 [.int .u8 120] from rfl) (Reps.none _ _))); intro v9 w9 ho hb hg_ hnew_; clear hg_ hnew_; rw [← Y9.out] at ho; have n0_ := Aside0.mk (Kd.R_lower ho (below_size (by repeat (first | (with_reducible first | exact HB.out | apply below_alloc | apply pw_below_drewN | apply below_drew1) | exact HB.out)))); have n1_ := Aside0.mk (below_step (by repeat (first | (with_reducible first | exact HB.out | apply below_alloc | apply pw_below_drewN | apply below_drew1) | exact HB.out)) hb); clear HB; have HR9 := n0_; have HB := n1_; clear n0_ n1_; clear hb ho; obtain ⟨A9, c9, eo⟩ := Kd.R_slice HR9.out; subst eo) | ((with_reducible refine gate_dst (N := 10) rfl ?_); (try (refine gate_guard (by rfl) ?_; dsimp only)); refine sm_conv_event (w := w) ?hg HB.out HR9.out (by rw [Y9.out]; decide) ?hrun rfl ?_; (case hg => rfl); (case hrun => intro W' hW; (first | (go_simp; done) | (go_simp; rfl))); intro w10 hb hc hcc; have n0_ := Aside0.mk hb; have n1_ := Aside0.mk hc; have n2_ := Aside0.mk (Kd.R_reads' HR9.out).2.1; clear HB HR9 hb hc hcc; have HB := n0_; have HC10 := n1_; have HL10 := n2_; clear n0_ n1_ n2_) | ((with_reducible refine gate_callee (f := 10) rfl ?_); refine goesL_ (some 11) rfl rfl Try.func10 (by kernel_rfl) rfl #[.agg #[.int .i64 1, .int .i64 2, .int .i64 3], .int .i64 2, .slice A9 y9.length c9] rfl (by (try simp only [List.map_toArray, List.map_cons, List.map_nil]); first | done | rfl) ?_; (with_reducible refine (frame_Encode.calls 1 2 3 2 _ _ y9 S 0 _ ?side1 ?side2 E1.out).mono ?_); (case side1 => exact (by (with_reducible repeat (first | apply Kd.C_alloc | apply Kd.C_drewN | apply Kd.C_drew)); exact HC10.out)); (case side2 => exact HL10.out); rintro e w11 ⟨v11, rfl, ho0, hb⟩; refine ⟨_, rfl, ?_⟩; have ho := Kd.R_V (base' := w.heap.size) ho0; clear ho0; obtain ⟨A11, c11, eo⟩ := Kd.V_slice ho; subst eo; have HX := Aside0.mk (Kd.V_reads' ho).2.2; have HXL := Aside0.mk (Kd.V_reads' ho).2.1; clear ho; have n9_ := Aside0.mk (below_step (by repeat (first | (with_reducible first | exact HB.out | apply below_alloc | apply pw_below_drewN | apply below_drew1) | exact HB.out)) hb); clear HB; have HB := n9_; clear n9_; clear hb) | ((with_reducible refine gate_callee (f := 15) rfl ?_); refine goesL_ (some 16) rfl rfl Try.func15 (by kernel_rfl) rfl #[.slice A11 S.length c11] rfl (by (try simp only [List.map_toArray, List.map_cons, List.map_nil]); first | done | rfl) ?_; (with_reducible refine (frame_Decode.calls _ _ S 1 2 3 2 y16 0 _ ?side1 ?side2 E2.out).mono ?_); (case side1 => exact (by (with_reducible repeat (first | apply Kd.C_alloc | apply Kd.C_drewN | apply Kd.C_drew)); exact HX.out)); (case side2 => exact HXL.out); rintro e w16 ⟨v16, rfl, ho, hb⟩; refine ⟨_, rfl, ?_⟩; obtain ⟨A16, c16, eo⟩ := Kd.R_slice ho; subst eo; have HQ := Aside0.mk ho; clear ho; have x_ := Aside0.mk (Kd.C_below (by (with_reducible repeat (first | apply Kd.C_alloc | apply Kd.C_drewN | apply Kd.C_drew)); exact HX.out) hb); clear HX; have HX := x_; clear x_; have n9_ := Aside0.mk (below_step (by repeat (first | (with_reducible first | exact HB.out | apply below_alloc | apply pw_below_drewN | apply below_drew1) | exact HB.out)) hb); clear HB; have HB := n9_; clear n9_; clear hb) | ((with_reducible refine gate_dst (N := 3) rfl ?_); (try (refine gate_guard (by rfl) ?_; dsimp only)); refine box_event ?hg (N := 3) ?hd (cs := #[.int .i64 0, .int .i64 0, .int .i64 0]) (t := 23) ?hr ?_; (case hd => rfl); (case hg => rfl); (case hr => first | (go_simp; done) | (go_simp; rfl)); intro g3 hg w3 hbox hb; have q_ := Aside0.mk (Kd.R_below HQ.out hb); clear HQ; have HQ := q_; clear q_; have m2 := Aside0.mk ((by rw [hg]; exact (below_size (by repeat (first | (with_reducible first | exact HB.out | apply below_alloc | apply pw_below_drewN | apply below_drew1) | exact HB.out))) : w.heap.size ≤ g3)); obtain ⟨ad, ea, hcell0⟩ := fa_cell HX.out E3.out; subst ea; have hlt := block_lt_of_cell hcell0; obtain ⟨sb, so, ss⟩ := ad; have hne : ¬ sb = g3 := (by rw [hg]; exact Nat.ne_of_lt hlt); clear hcell0 hlt; have x_ := Aside0.mk (Kd.C_below (by (with_reducible repeat (first | apply Kd.C_alloc | apply Kd.C_drewN | apply Kd.C_drew)); exact HX.out) hb); clear HX; have HX := x_; clear x_; have B3 := Aside0.mk hbox; have G3 := m2; clear m2 hbox hg; have n9_ := Aside0.mk (below_step (by repeat (first | (with_reducible first | exact HB.out | apply below_alloc | apply pw_below_drewN | apply below_drew1) | exact HB.out)) hb); clear HB; have HB := n9_; clear n9_; clear hb; obtain ⟨ad2, ea2, hcell⟩ := fa_cell HX.out E3.out; obtain rfl := Option.some.inj ea2; rw [E4.out] at hcell; have h30 := blk_cell B3.out 0; have h31 := blk_cell B3.out 1; have h32 := blk_cell B3.out 2; have hf30 := blk_frozen B3.out 0; have hf31 := blk_frozen B3.out 1; have hf32 := blk_frozen B3.out 2; simp only [List.getElem?_toArray, List.getElem?_cons_zero, List.getElem?_cons_succ] at h30 h31 h32; have hcv := Kd.C_string (P := Try.prog) (c := c16) Try.underlying24 Try.underlying5 Try.underlying9 (Kd.R_reads' (Kd.R_set (Kd.R_set (Kd.R_set HQ.out B3.out (by decide) 0 (.int .i64 1)) (blk_set B3.out 0 _) (by decide) 1 (.int .i64 2)) (blk_set (blk_set B3.out 0 _) 1 _) (by decide) 2 (.int .i64 3))).2.2; rw [E8.out] at hcv; have hlen : (S.length : Int) = 128 := by rw [E3.out]; rfl))
  go_ret
  exact ⟨by first | rfl | (simp <;> rfl), by repeat (first | (with_reducible first | exact HB.out | apply below_alloc | apply pw_below_drewN | apply below_drew1 | refine below_set ?_ G3.out) | exact HB.out)⟩
theorem lienlaw04_awake.calls (r : Bool) (w : World) (h : lienlaw04_awake.f = some r) :
    Calls Try.prog 14 #[] w fun e w' => e = .returned (.bool r) ∧ Below w.heap.size w w' := by
  obtain rfl := Option.some.inj h
  exact aw_walk w [120] [120] aw_S ⟨rfl⟩ ⟨aw_e1⟩ ⟨aw_e2⟩ ⟨aw_e3⟩ ⟨aw_e4⟩ ⟨aw_str⟩

end Go.Proofs.Ytljknhjmaafmkaa.PFrameSpoilt
