-- Written by wip/xprint of this repo (our own program) out of the translation; what is marked BY HAND is ours. Not trusted: Lean checks it.
import Derived.Test.YtlehgphnjpgjnaaPBloomMakesx0
import Derived.Test.YtlehgphnjpgjnaaPBloomMakesx1
namespace Go.Proofs.Ytlehgphnjpgjnaa.PBloomMakes
open Go.RowKit Go.Proofs.YtlehgphnjpgjnaaW.PrintWords Go.Proofs.YtlehgphnjpgjnaaW.PrintLast Go.Proofs.YtlehgphnjpgjnaaW.PrintMore
attribute [local go_sem] max2_int min2_int max_two min_two max_three min_three max_four min_four   -- for this text's walks alone
set_option linter.unusedVariables false
set_option linter.unusedSimpArgs false

/-! ### bloom_Make: function 41 -/
-- BY HAND

def bl_nb (n : Nat) (b : Int) : Nat := (mx 64 (((n : Int) * b + 7) / 8 * 8) / 8).toNat
def bl_pr (b : Int) : Int := mx 1 (b * 7 / 10)
def bl_keys (m p : Int) : List ByteArray → List Int → Option (List Int)
  | [], xs => some xs
  | k :: ks, xs => (bloom_Hash.f (k.size + 1) k).bind fun h => (if 0 ≤ h then bl_keys m p ks (bl_marks m (bl_step h) p.toNat h xs) else none)
def bloom_Make.f (l0 : List ByteArray) (a1 : Int) : Option (List Int × Int) :=
  if a1 < 1 then some ([], 110) else if 16 < a1 then some ([], 110) else if 4096 < (l0.length : Int) then some ([], 3) else
  (bl_keys (8 * (bl_nb l0.length a1 : Int)) (bl_pr a1) l0 ((List.replicate (bl_nb l0.length a1 + 1) 0).set 0 (bl_pr a1))).bind fun r => some (r, 0)
set_option maxHeartbeats 8000000 in
set_option maxRecDepth 100000 in
theorem bloom_Make.calls (A0 : Option Addr) (c0 : Nat) (l0 : List ByteArray) (a1 : Int) (r1 : List Int) (r2 : Int) (w : World) (hr0 : Kd.C Kd.string w A0 l0.length l0) (hc0 : l0.length ≤ c0) (h : bloom_Make.f l0 a1 = some (r1, r2)) :
    Calls Try.prog 41 #[.slice A0 l0.length c0, .int .i64 a1] w fun e w' => ∃ v0_ : Value, e = .returned (.tuple #[v0_, .int .i64 r2]) ∧ Kd.R (Kd.int .u8) 5 w' w.heap.size (fun _ => True) v0_ r1 ∧ Below w.heap.size w w' := by
  have hu69 := Try.underlying69
  have HC := Aside0.mk hr0
  clear hr0
  have HB := Aside0.mk (Below.refl w.heap.size w)
  unfold bloom_Make.f at h
  by_cases c1 : a1 < 1
  · rw [if_pos c1] at h
    simp only [Option.some.injEq, Prod.mk.injEq] at h
    obtain ⟨rfl, rfl⟩ := h
    have d1 : decide (a1 < 1) = true := decide_eq_true c1
    go_enter Try.func41, Try.ntmps41
    go_wp2
    go_ret2
    exact ⟨_, rfl, Kd.R_nil _ _ _ _ _, by repeat (first | (with_reducible first | exact HB.out | apply below_alloc | apply pw_below_drewN | apply below_drew1) | exact HB.out)⟩
  rw [if_neg c1] at h
  have d1 : decide (a1 < 1) = false := decide_eq_false c1
  by_cases c2 : 16 < a1
  · rw [if_pos c2] at h
    simp only [Option.some.injEq, Prod.mk.injEq] at h
    obtain ⟨rfl, rfl⟩ := h
    have d2 : decide (16 < a1) = true := decide_eq_true c2
    go_enter Try.func41, Try.ntmps41
    go_wp2
    go_ret2
    exact ⟨_, rfl, Kd.R_nil _ _ _ _ _, by repeat (first | (with_reducible first | exact HB.out | apply below_alloc | apply pw_below_drewN | apply below_drew1) | exact HB.out)⟩
  rw [if_neg c2] at h
  have d2 : decide (16 < a1) = false := decide_eq_false c2
  by_cases c3 : 4096 < (l0.length : Int)
  · rw [if_pos c3] at h
    simp only [Option.some.injEq, Prod.mk.injEq] at h
    obtain ⟨rfl, rfl⟩ := h
    have d3 : decide (4096 < (l0.length : Int)) = true := decide_eq_true c3
    have d3' : decide (4096 < l0.length) = true := decide_eq_true (by omega)
    go_enter Try.func41, Try.ntmps41
    go_wp2
    go_ret2
    exact ⟨_, rfl, Kd.R_nil _ _ _ _ _, by repeat (first | (with_reducible first | exact HB.out | apply below_alloc | apply pw_below_drewN | apply below_drew1) | exact HB.out)⟩
  rw [if_neg c3] at h
  have d3 : decide (4096 < (l0.length : Int)) = false := decide_eq_false c3
  have d3' : decide (4096 < l0.length) = false := decide_eq_false (by omega)
  obtain ⟨rr, H, h⟩ := Option.bind_eq_some_iff.mp h
  simp only [Option.some.injEq, Prod.mk.injEq] at h
  obtain ⟨rfl, rfl⟩ := h
  have hp0 : 0 ≤ (l0.length : Int) * a1 := Int.mul_nonneg (by omega) (by omega)
  have hp1 : (l0.length : Int) * a1 ≤ 65536 := Int.le_trans (Int.mul_le_mul (show (l0.length : Int) ≤ 4096 by omega) (show a1 ≤ 16 by omega) (by omega) (by omega)) (by decide)
  obtain ⟨nb, hnb⟩ : ∃ nb : Nat, bl_nb l0.length a1 = nb := ⟨_, rfl⟩
  have hm : mx 64 (((l0.length : Int) * a1 + 7) / 8 * 8) = 8 * (nb : Int) := by
    rw [← hnb]
    unfold bl_nb mx
    split <;> omega
  have hm' : (if 64 < ((l0.length : Int) * a1 + 7) / 8 * 8 then ((l0.length : Int) * a1 + 7) / 8 * 8 else 64) = 8 * (nb : Int) := hm
  have hnb1 : 8 ≤ nb := by
    rw [← hnb]
    unfold bl_nb mx
    split <;> omega
  have hnb2 : nb ≤ 8192 := by
    rw [← hnb]
    unfold bl_nb mx
    split <;> omega
  rw [hnb] at H
  obtain ⟨P, hP⟩ : ∃ P, bl_pr a1 = P := ⟨_, rfl⟩
  have hP' : mx 1 (a1 * 7 / 10) = P := hP
  have hP'' : (if 1 < a1 * 7 / 10 then a1 * 7 / 10 else 1) = P := hP
  have hP1 : 1 ≤ P := by
    rw [← hP]
    unfold bl_pr mx
    split <;> omega
  have hP2 : P ≤ 11 := by
    rw [← hP]
    unfold bl_pr mx
    split <;> omega
  rw [hP] at H
  clear hnb hP
  go_enter Try.func41, Try.ntmps41
  go_wp2_with (first | ((with_reducible refine gate_dst (N := 31) rfl ?_); refine Kd.R_make (Kd.int .u8) _ 5 rfl (N := 31) rfl 32 _ _ rfl (1 + (nb : Int)) rfl rfl Try.underlying32 (.int .u8 0) 1 info5 rfl (by decide) (by omega) 0 (ok := fun _ => True) (okp := fun _ => True) rfl (fun _ hk => hk) trivial (by omega) (Nat.le_trans (Nat.mul_le_mul_right _ (show (1 + (nb : Int)).toNat ≤ 281474976710656 by omega)) (by omega)) (Below.refl _ _) (Nat.le_refl _) ?_; intro v1 w1 ho hb hg_ hnew_; clear hg_ hnew_; rw [show (1 + (nb : Int)).toNat = nb + 1 by omega] at ho; obtain ⟨g, cap, eform, hbg, hgl, hcells⟩ := Kd.R_form ho (by rw [List.length_replicate]; omega); subst eform; clear hcells; simp only [List.length_replicate] at ho ⊢; obtain ⟨cb, rfl⟩ : ∃ cb, cap = cb + 1 := ⟨cap - 1, by have := (Kd.R_reads' ho).2.1; omega⟩; have hcb : nb ≤ cb := (by have := (Kd.R_reads' ho).2.1; omega); have m0 := Aside0.mk (below_step HB.out hb); have m1 := Aside0.mk ho; have m2 := Aside0.mk hbg; have m3 := Aside0.mk hgl; have hx := (Kd.R_celln 0 ho 0 (by decide) (by omega)).1; have hf := (Kd.R_celln 0 ho 0 (by decide) (by omega)).2; (simp only [Int.toNat_zero, Int.reduceToNat] at hx hf); clear HB ho hb hbg hgl; have HB := m0; have HR := m1; have HBG := m2; have HGL := m3; clear m0 m1 m2 m3))
  clear hx hf
  have hR2 := Kd.R_putn HR.out 0 P
  have hB2 := below_set (j := 0) (v := .int .u8 P) HB.out HBG.out
  have hL2 : g < (w1.setCell ⟨g, 0, none⟩ (.int .u8 P)).heap.size := Nat.lt_of_lt_of_le HGL.out (Kd.R_putg HR.out 0 P).2.size
  clear HR HB HGL
  simp only [Int.toNat_zero] at hR2
  have hR2' : (Kd.int .u8).R 5 (w1.setCell ⟨g, 0, none⟩ (.int .u8 P)) w.heap.size (fun _ => True) (.slice (some ⟨g, 0, none⟩) (nb + 1) (cb + 1)) ((List.replicate (nb + 1) 0).set 0 P) := hR2
  clear hR2
  generalize hw2 : w1.setCell ⟨g, 0, none⟩ (.int .u8 P) = w2 at hR2' hB2 hL2 ⊢
  have HR := Aside0.mk hR2'
  have HB := Aside0.mk hB2
  clear hR2' hB2 hw2
  have hx := (Kd.R_celln 0 HR.out 0 (by decide) (by omega)).1
  have hx' : w2.cell? ⟨g, 0, none⟩ = some (.int .u8 P) := hx
  clear hx
  go_region
  have hL3 : g < ((w2.alloc (.cells #[.slice (some ⟨g, 1, none⟩) nb cb, .int .i64 P] 69 (0, 0))).drew).heap.size := Nat.lt_of_lt_of_le hL2 (below_drew (below_alloc (Below.refl w2.heap.size w2) _)).size
  have hG8 : w2.heap.size ≠ g := by omega
  have hbox : ((w2.alloc (.cells #[.slice (some ⟨g, 1, none⟩) nb cb, .int .i64 P] 69 (0, 0))).drew).heap[w2.heap.size]? = some (.cells #[.slice (some ⟨g, 1, none⟩) nb cb, .int .i64 P] 69 (0, 0)) := blk_drew (show (w2.heap.push _)[w2.heap.size]? = _ from Array.getElem?_push_size)
  have hR3 := Kd.R_drew (Kd.R_alloc HR.out (.cells #[.slice (some ⟨g, 1, none⟩) nb cb, .int .i64 P] 69 (0, 0)))
  have hB3 := below_drew (below_alloc HB.out (.cells #[.slice (some ⟨g, 1, none⟩) nb cb, .int .i64 P] 69 (0, 0)))
  clear HR HB hx'
  generalize (w2.alloc (.cells #[.slice (some ⟨g, 1, none⟩) nb cb, .int .i64 P] 69 (0, 0))).drew = w3 at hL3 hbox hR3 hB3 ⊢
  clear hL2
  generalize w2.heap.size = g8 at hG8 hbox ⊢
  have HR := Aside0.mk hR3
  have HB := Aside0.mk hB3
  have HL := Aside0.mk hL3
  have B8 := Aside0.mk hbox
  have HH := Aside0.mk H
  clear hR3 hB3 hL3 hbox H
  go_wp2
  go_loopg [48] l0.length (fun kq v48 w' => ∃ (j : Nat) (xs : List Int), v48 = .int .i64 (j : Int) ∧ Aside0 (kq + j = l0.length) ∧ Aside0 (bl_keys (8 * (nb : Int)) P (l0.drop j) xs = some rr) ∧ Aside0 ((Kd.int .u8).R 5 w' w.heap.size (fun _ => True) (.slice (some ⟨g, 0, none⟩) (nb + 1) (cb + 1)) xs) ∧ Aside0 (w'.heap[g8]? = some (.cells #[.slice (some ⟨g, 1, none⟩) nb cb, .int .i64 P] 69 (0, 0))) ∧ Aside0 (g < w'.heap.size) ∧ Aside0 (Below w.heap.size w w'))
  case atStart => exact ⟨0, _, rfl, ⟨rfl⟩, HH, HR, B8, HL, HB⟩
  case round =>
    clear HR HB HL B8 HH
    obtain ⟨j, xs, rfl, HK, HH, HR, B8, HL, HB⟩ := hrel
    cases gk with
    | zero =>
      have ej : j = l0.length := by have := HK.out; omega
      subst ej
      have hr := HH.out
      rw [List.drop_length] at hr
      obtain rfl := Option.some.inj hr
      clear hr HH
      go_wp2
      go_ret2
      exact ⟨_, rfl, HR.out, HB.out⟩
    | succ n =>
      have hj : j < l0.length := by have := HK.out; omega
      have hjb : decide ((j : Int) < (l0.length : Int)) = true := decide_eq_true (by omega)
      have hjb' : decide (j < l0.length) = true := decide_eq_true hj
      have hr := HH.out
      rw [List.drop_eq_getElem_cons hj] at hr
      obtain ⟨hh, ehh, hr⟩ := Option.bind_eq_some_iff.mp hr
      by_cases hz : 0 ≤ hh
      · rw [if_pos hz] at hr
        have EHH := Aside0.mk ehh
        have HZ := Aside0.mk hz
        have HH2 := Aside0.mk hr
        clear ehh hz hr HH
        obtain ⟨ad_, ea_, hcell⟩ := (Kd.reads_of_C (d := ByteArray.empty) (Kd.C_below HC.out HB.out)).at_ (j : Int) (by omega) (by omega)
        subst ea_
        rw [show rdOf ByteArray.empty l0 (j : Int) = l0[j] by simp [rdOf, List.getD_eq_getElem?_getD, hj]] at hcell
        generalize l0[j] = key at hcell EHH
        rw [Int.toNat_natCast] at hcell
        have hcell' : _ = some (Value.string key) := hcell
        clear hcell
        have hc0' := blk_cell B8.out 0
        have hc1' := blk_cell B8.out 1
        simp only [List.getElem?_toArray, List.getElem?_cons_zero, List.getElem?_cons_succ] at hc0' hc1'
        go_wp2_with (first | ((with_reducible refine gate_callee (f := 53) rfl ?_); refine goesL_ (some 54) rfl rfl Try.func53 (by kernel_rfl) rfl #[.agg #[.slice (some ⟨g, 1, none⟩) nb cb, .int .i64 P], .string key, .func (.func 54) #[] #[]] rfl (by (try simp only [List.map_toArray, List.map_cons, List.map_nil]); first | done | rfl) ?_; (refine (bl_eachMake' g nb cb (fun _ => True) xs P key hh w _ HB.out HR.out HBG.out HL.out hcb hnb1 hnb2 (by omega) (by omega) EHH.out HZ.out).mono ?_); rintro e w5 ⟨rfl, hb, hk, hr5⟩; refine ⟨_, rfl, ?_⟩; have m0 := Aside0.mk hb; have m1 := Aside0.mk hr5; have m2 := Aside0.mk ((hk.2 g8 (blk_lt B8.out) hG8).trans B8.out); have m3 := Aside0.mk (Nat.lt_of_lt_of_le HL.out hk.1); clear HB HR B8 HL hb hk hr5; have HB := m0; have HR := m1; have B8 := m2; have HL := m3; clear m0 m1 m2 m3))
        go_roundg n
        case measure => omega
        case rel => exact ⟨j + 1, _, by first | rfl | (rw [Int.natCast_add]; rfl), ⟨by have := HK.out; omega⟩, HH2, HR, B8, HL, HB⟩
      · rw [if_neg hz] at hr
        cases hr

/-! ### lienref11_Hash: function 44 -/
def lienref11_Hash.l0 : Nat → ByteArray → Int → Int → Option (Int)
  | 0, _, _, _ => none
  | k + 1, x0, x3, x4 => if x4 < (x0.size : Int) then (if 0 ≤ x4 then (lienref11_Hash.l0 k x0 (IntKind.u64.wrap ((Go.bits .xor .u64 x3 (IntKind.u64.wrap (bt x0 x4))) * 13787848793156543929)) (wrap64 (x4 + 1))) else (none)) else (some (Go.bits .xor .u64 (IntKind.u64.wrap ((Go.bits .xor .u64 x3 (x3 / 2147483648)) * 10723151780598845931)) ((IntKind.u64.wrap ((Go.bits .xor .u64 x3 (x3 / 2147483648)) * 10723151780598845931)) / 536870912)))
def lienref11_Hash.f (k : Nat) (a0 : ByteArray) : Option (Int) := lienref11_Hash.l0 k a0 11400714819323198485 0
theorem lienref11_Hash.mono_l : ∀ k, (∀ y0 y1 y2, LeO (lienref11_Hash.l0 k y0 y1 y2) (lienref11_Hash.l0 (k + 1) y0 y1 y2))
  | 0 => fun _ _ _ r h => by simp [lienref11_Hash.l0] at h
  | k + 1 => by
    have ih0 := lienref11_Hash.mono_l k
    · intro y0 y1 y2
      unfold lienref11_Hash.l0
      repeat' first
      | (with_reducible exact ih0 _ _ _)
      | (with_reducible exact LeO.refl _)
      | (with_reducible exact LeO.none _)
      | (with_reducible refine LeO.ite ?_ ?_)
      | (with_reducible refine LeO.bind ?_ (fun _ => ?_))
      | exact ih0 _ _ _
      | exact LeO.none _
      | refine LeO.ite ?_ ?_
      | refine LeO.bind ?_ (fun _ => ?_)
theorem lienref11_Hash.mono : ∀ a0 k, LeO (lienref11_Hash.f k a0) (lienref11_Hash.f (k + 1) a0) := by
  intro a0 k
  have ih0 := lienref11_Hash.mono_l k
  unfold lienref11_Hash.f
  repeat' first
      | (with_reducible exact ih0 _ _ _)
      | (with_reducible exact LeO.refl _)
      | (with_reducible exact LeO.none _)
      | (with_reducible refine LeO.ite ?_ ?_)
      | (with_reducible refine LeO.bind ?_ (fun _ => ?_))
      | exact ih0 _ _ _
      | exact LeO.none _
      | refine LeO.ite ?_ ?_
      | refine LeO.bind ?_ (fun _ => ?_)
set_option maxHeartbeats 8000000 in
set_option maxRecDepth 100000 in
theorem lienref11_Hash.calls (k : Nat) (a0 : ByteArray) (r : Int) (w : World) (h : lienref11_Hash.f k a0 = some r) :
    Calls Try.prog 44 #[.string a0] w fun e w' => e = .returned (.int .u64 r) ∧ Drawn0 w w' := by
  have H : (lienref11_Hash.l0 k a0 11400714819323198485 0) = some r := h
  clear h
  have H' := Aside0.mk H
  clear H
  go_enter Try.func44, Try.ntmps44
  go_wp2
  go_loopg [3, 4] k (fun kq v3 v4 w' => ∃ (x3_1 : Int) (x4_1 : Int), v3 = .int .u64 x3_1 ∧ v4 = .int .i64 x4_1 ∧ Aside0 (lienref11_Hash.l0 kq a0 x3_1 x4_1 = some r) ∧ Aside0 (kq ≤ k) ∧ Drawn0 w w')
  case atStart => exact ⟨(11400714819323198485), (0), (by first | rfl | (simp; done) | (simp [*]; done)), (by first | rfl | (simp; done) | (simp [*]; done)), H', ⟨Nat.le_refl _⟩, by repeat (first | exact Drawn0.refl _ | apply Drawn0.step)⟩
  case round =>
    clear H'
    obtain ⟨x3_1, x4_1, rfl, rfl, HA, HK1, ⟨m1, rfl⟩⟩ := hrel
    cases gk with
    | zero => exact absurd HA.out (by simp [lienref11_Hash.l0])
    | succ k1 =>
      have H := HA.out
      clear HA
      simp only [lienref11_Hash.l0] at H
      by_cases c2 : x4_1 < (a0.size : Int)
      · rw [if_pos c2] at H
        have c2b0 : decide (x4_1 < (a0.size : Int)) = true := decide_eq_true c2
        clear c2
        by_cases c3 : 0 ≤ x4_1
        · rw [if_pos c3] at H
          have c3b0 : decide (0 ≤ x4_1) = true := decide_eq_true c3
          clear c3
          have H' := Aside0.mk H
          clear H
          have p4 : 0 ≤ (x4_1 : Int) := of_decide_eq_true (by first | (with_reducible assumption) | assumption)
          have q4 : x4_1 < (a0.size : Int) := of_decide_eq_true (by first | (with_reducible assumption) | assumption)
          have hx4 := bt_at a0 x4_1
          replace p4 := eq_true p4
          replace q4 := eq_true q4
          go_wp2
          go_roundg k1
          case measure => have := HK1.out; omega
          case rel => exact ⟨(IntKind.u64.wrap ((Go.bits .xor .u64 x3_1 (IntKind.u64.wrap (bt a0 x4_1))) * 13787848793156543929)), (wrap64 (x4_1 + 1)), (by first | rfl | (simp; done) | (simp [*]; done)), (by first | rfl | (simp; done) | (simp [*]; done)), H', ⟨by have := HK1.out; omega⟩, by repeat (first | exact Drawn0.refl _ | apply Drawn0.step)⟩
        · rw [if_neg c3] at H
          exact absurd H (by simp)
      · rw [if_neg c2] at H
        have c2b0 : decide (x4_1 < (a0.size : Int)) = false := decide_eq_false c2
        clear c2
        obtain rfl := Option.some.inj H
        go_wp2
        go_ret
        exact ⟨by first | rfl | (simp; done) | (simp [*]; done), by repeat (first | exact Drawn0.refl _ | apply Drawn0.step)⟩

/-! ### lienref11_Places: function 55 -/
mutual
def lienref11_Places.j0 : Nat → Int → Int → Int → Int → Option (List Int)
  | 0, _, _, _, _ => none
  | k + 1, x1, x2, x7, x8 => lienref11_Places.l0 k x1 x2 x7 x8 ([] : List Int) 0
def lienref11_Places.l0 : Nat → Int → Int → Int → Int → List Int → Int → Option (List Int)
  | 0, _, _, _, _, _, _ => none
  | k + 1, x1, x2, x7, x8, x9, x10 => if x10 < x2 then (if (IntKind.u64.wrap (x1)) = 0 then (none) else (if x9.length < 17592186044416 then (lienref11_Places.l0 k x1 x2 (IntKind.u64.wrap (x7 + x8)) x8 (x9 ++ [wrap64 (Int.tmod x7 (IntKind.u64.wrap (x1)))]) (wrap64 (x10 + 1))) else (none))) else (some x9)
end
def lienref11_Places.f (k : Nat) (a0 : ByteArray) (a1 : Int) (a2 : Int) : Option (List Int) := (lienref11_Hash.f k a0).bind fun t107 => (if (t107 / 8589934592) = 0 then (lienref11_Places.j0 k a1 a2 t107 1) else (lienref11_Places.j0 k a1 a2 t107 (t107 / 8589934592)))
theorem lienref11_Places.mono_l : ∀ k, (∀ y0 y1 y2 y3, LeO (lienref11_Places.j0 k y0 y1 y2 y3) (lienref11_Places.j0 (k + 1) y0 y1 y2 y3)) ∧ (∀ y0 y1 y2 y3 y4 y5, LeO (lienref11_Places.l0 k y0 y1 y2 y3 y4 y5) (lienref11_Places.l0 (k + 1) y0 y1 y2 y3 y4 y5))
  | 0 => ⟨fun _ _ _ _ r h => by simp [lienref11_Places.j0] at h, fun _ _ _ _ _ _ r h => by simp [lienref11_Places.l0] at h⟩
  | k + 1 => by
    obtain ⟨ih0, ih1⟩ := lienref11_Places.mono_l k
    refine ⟨?_, ?_⟩
    · intro y0 y1 y2 y3
      unfold lienref11_Places.j0
      repeat' first
      | (with_reducible exact ih0 _ _ _ _)
      | (with_reducible exact ih1 _ _ _ _ _ _)
      | (with_reducible exact lienref11_Hash.mono _ _)
      | (with_reducible exact LeO.refl _)
      | (with_reducible exact LeO.none _)
      | (with_reducible refine LeO.ite ?_ ?_)
      | (with_reducible refine LeO.bind ?_ (fun _ => ?_))
      | exact ih0 _ _ _ _
      | exact ih1 _ _ _ _ _ _
      | exact lienref11_Hash.mono _ _
      | exact LeO.none _
      | refine LeO.ite ?_ ?_
      | refine LeO.bind ?_ (fun _ => ?_)
    · intro y0 y1 y2 y3 y4 y5
      unfold lienref11_Places.l0
      repeat' first
      | (with_reducible exact ih0 _ _ _ _)
      | (with_reducible exact ih1 _ _ _ _ _ _)
      | (with_reducible exact lienref11_Hash.mono _ _)
      | (with_reducible exact LeO.refl _)
      | (with_reducible exact LeO.none _)
      | (with_reducible refine LeO.ite ?_ ?_)
      | (with_reducible refine LeO.bind ?_ (fun _ => ?_))
      | exact ih0 _ _ _ _
      | exact ih1 _ _ _ _ _ _
      | exact lienref11_Hash.mono _ _
      | exact LeO.none _
      | refine LeO.ite ?_ ?_
      | refine LeO.bind ?_ (fun _ => ?_)
theorem lienref11_Places.mono : ∀ a0 a1 a2 k, LeO (lienref11_Places.f k a0 a1 a2) (lienref11_Places.f (k + 1) a0 a1 a2) := by
  intro a0 a1 a2 k
  obtain ⟨ih0, ih1⟩ := lienref11_Places.mono_l k
  unfold lienref11_Places.f
  repeat' first
      | (with_reducible exact ih0 _ _ _ _)
      | (with_reducible exact ih1 _ _ _ _ _ _)
      | (with_reducible exact lienref11_Hash.mono _ _)
      | (with_reducible exact LeO.refl _)
      | (with_reducible exact LeO.none _)
      | (with_reducible refine LeO.ite ?_ ?_)
      | (with_reducible refine LeO.bind ?_ (fun _ => ?_))
      | exact ih0 _ _ _ _
      | exact ih1 _ _ _ _ _ _
      | exact lienref11_Hash.mono _ _
      | exact LeO.none _
      | refine LeO.ite ?_ ?_
      | refine LeO.bind ?_ (fun _ => ?_)
set_option maxHeartbeats 8000000 in
set_option maxRecDepth 100000 in
theorem lienref11_Places.calls (k : Nat) (a0 : ByteArray) (a1 : Int) (a2 : Int) (r : List Int) (w : World) (h : lienref11_Places.f k a0 a1 a2 = some r) :
    Calls Try.prog 55 #[.string a0, .int .i64 a1, .int .i64 a2] w fun e w' => ∃ v0_ : Value, e = .returned (v0_) ∧ Kd.R (Kd.int .i64) 3 w' w.heap.size (fun _ => True) v0_ r ∧ Below w.heap.size w w' := by
  have HB := Aside0.mk (Below.refl w.heap.size w)
  have H : ((lienref11_Hash.f k a0).bind fun t107 => (if (t107 / 8589934592) = 0 then (lienref11_Places.j0 k a1 a2 t107 1) else (lienref11_Places.j0 k a1 a2 t107 (t107 / 8589934592)))) = some r := h
  clear h
  replace H := Option.bind_eq_some_iff.mp H
  obtain ⟨t107, A40, H⟩ := H
  replace H : (if (t107 / 8589934592) = 0 then (lienref11_Places.j0 k a1 a2 t107 1) else (lienref11_Places.j0 k a1 a2 t107 (t107 / 8589934592))) = some r := H
  have A4 := Aside0.mk A40
  clear A40
  have HC5 := Aside0.mk H
  clear H
  go_enter Try.func55, Try.ntmps55
  go_upto_if 16 with (first | ((with_reducible refine gate_callee (f := 44) rfl ?_); refine goesL_ (some 12) rfl rfl Try.func44 (by kernel_rfl) rfl #[.string a0] rfl (by (try simp only [List.map_toArray, List.map_cons, List.map_nil]); first | done | rfl | (simp only [List.length_drop, List.length_take]; rfl)) ?_; (with_reducible refine (lienref11_Hash.calls k a0 t107 _ A4.out).mono ?_); rintro e w' ⟨rfl, ⟨nd, rfl⟩⟩; refine ⟨_, rfl, ?_⟩))
  (try simp only [Act.put, List.setIfInBounds_toArray, List.set_cons_zero, List.set_cons_succ])
  go_cut [8] (fun v8 wc => ∃ (kq : Nat) (x8_4 : Int), v8 = .int .u64 x8_4 ∧ Aside0 (lienref11_Places.j0 kq a1 a2 t107 x8_4 = some r) ∧ Aside0 (kq ≤ k) ∧ Aside0 (Below w.heap.size w wc))
  case first =>
    have H := HC5.out
    clear HC5
    by_cases c6 : (t107 / 8589934592) = 0
    · rw [if_pos c6] at H
      have c6b0 : ((t107 / 8589934592) == 0) = true := beq_iff_eq.mpr c6
      have c6b1 : ((t107 / 8589934592) != 0) = false := bne_eq_false_iff_eq.mpr c6
      clear c6
      (first | rw [c6b0] | (simp only [i64_w, i32_w]; rw [c6b0]) | skip)
      have H' := Aside0.mk H
      clear H
      go_wp2
      go_meet
      case rel => exact ⟨_, (1), (by first | rfl | (simp; done) | (simp [*]; done)), H', ⟨by first | omega | exact Nat.le_refl _⟩, ⟨by repeat (first | (with_reducible first | exact HB.out | apply below_alloc | apply pw_below_drewN | apply below_drew1) | exact HB.out)⟩⟩
    · rw [if_neg c6] at H
      have c6b0 : ((t107 / 8589934592) == 0) = false := beq_eq_false_iff_ne.mpr c6
      have c6b1 : ((t107 / 8589934592) != 0) = true := bne_iff_ne.mpr c6
      (first | rw [c6b0] | (simp only [i64_w, i32_w]; rw [c6b0]) | skip)
      have H' := Aside0.mk H
      clear H
      go_wp2
      go_meet
      case rel => exact ⟨_, (t107 / 8589934592), (by first | rfl | (simp; done) | (simp [*]; done)), H', ⟨by first | omega | exact Nat.le_refl _⟩, ⟨by repeat (first | (with_reducible first | exact HB.out | apply below_alloc | apply pw_below_drewN | apply below_drew1) | exact HB.out)⟩⟩
  case rest =>
    clear HC5
    try clear p2
    try clear c4
    try clear c5
    try clear c6
    try clear c6b0
    try clear c6b1
    obtain ⟨kq, x8_4, rfl, HA, HJ4, HB⟩ := hcut
    cases kq with
    | zero => exact absurd HA.out (by simp [lienref11_Places.j0])
    | succ kj4 =>
      have H := HA.out
      clear HA
      simp only [lienref11_Places.j0] at H
      have H' := Aside0.mk H
      clear H
      go_wp2
      go_loopg [7, 9, 10] kj4 (fun kq v7 v9 v10 w' => ∃ (x7_2 : Int) (x9_2 : List Int) (x10_2 : Int), v7 = .int .u64 x7_2 ∧ v10 = .int .i64 x10_2 ∧ Aside0 (lienref11_Places.l0 kq a1 a2 x7_2 x8_4 x9_2 x10_2 = some r) ∧ Aside0 (kq ≤ kj4) ∧ Aside0 (Kd.R (Kd.int .i64) 3 w' w.heap.size (fun _ => True) v9 x9_2) ∧ Aside0 (Below w.heap.size w w'))
      case atStart => exact ⟨(t107), (([] : List Int)), (0), (by first | rfl | (simp; done) | (simp [*]; done)), (by first | rfl | (simp; done) | (simp [*]; done)), H', ⟨Nat.le_refl _⟩, ⟨by first | exact Kd.R_nil _ _ _ _ _ | exact Kd.N_nil _ _ _ _ _ | exact Kd.V_nil _ _ _ _ _ | exact Kd.Q_nil _ _ _ _ _ | exact Kd.S_nil _ _ _ _ _⟩, ⟨by repeat (first | (with_reducible first | exact HB.out | apply below_alloc | apply pw_below_drewN | apply below_drew1) | exact HB.out)⟩⟩
      case round =>
        clear H'
        try clear p2
        try clear c4
        try clear c5
        try clear c6
        try clear c6b0
        try clear c6b1
        try clear p2
        obtain ⟨x7_2, x9_2, x10_2, rfl, rfl, HA, HK2, HO_9, HB⟩ := hrel
        cases gk with
        | zero => exact absurd HA.out (by simp [lienref11_Places.l0])
        | succ k2 =>
          have H := HA.out
          clear HA
          simp only [lienref11_Places.l0] at H
          by_cases c7 : x10_2 < a2
          · rw [if_pos c7] at H
            have c7b0 : decide (x10_2 < a2) = true := decide_eq_true c7
            clear c7
            by_cases c8 : (IntKind.u64.wrap (a1)) = 0
            · rw [if_pos c8] at H
              exact absurd H (by simp)
            · rw [if_neg c8] at H
              have c8b0 : ((IntKind.u64.wrap (a1)) == 0) = false := beq_eq_false_iff_ne.mpr c8
              have c8b1 : ((IntKind.u64.wrap (a1)) != 0) = true := bne_iff_ne.mpr c8
              by_cases c9 : x9_2.length < 17592186044416
              · rw [if_pos c9] at H
                have LMc9 := Aside0.mk c9
                clear c9
                obtain ⟨y108, hy108⟩ : ∃ y_ : List Int, y_ = (x9_2 ++ [wrap64 (Int.tmod x7_2 (IntKind.u64.wrap (a1)))]) := ⟨_, rfl⟩
                replace H : (lienref11_Places.l0 k2 a1 a2 (IntKind.u64.wrap (x7_2 + x8_4)) x8_4 y108 (wrap64 (x10_2 + 1))) = some r := by first | (rw [hy108]; with_reducible exact H) | (have H2_ := (Option.bind_some _ _).symm.trans H; rw [hy108]; with_reducible exact H2_) | (have H2_ := (Option.bind_some _ _).symm.trans H; with_reducible exact H2_) | with_reducible exact H | (rw [hy108]; exact H) | exact H
                have Ny108 := Aside0.mk hy108
                clear hy108
                have H' := Aside0.mk H
                clear H
                go_wp2_with (first | ((with_reducible refine gate_builtin (b := .append) (xs := #[.tmp 22, .tmp 28]) rfl ?_); at_builtin; refine Kd.R_append (Kd.int .i64) (w0 := w) w.heap.size rfl (.tmp 22) (.tmp 28) 72 3 (.int .i64 0) 8 rfl Try.underlying72 info3 rfl (by decide) (by omega) u9 x9_2 (wrap64 (Int.tmod x7_2 (IntKind.u64.wrap (a1)))) [.int .i64 (wrap64 (Int.tmod x7_2 (IntKind.u64.wrap (a1))))] (fun _ => True) (fun _ => False) rfl rfl ?aP (fun _ hk => hk.elim) ?aF ?aO ?aB ?aS ?aL ?_; (case aP => exact rfl); (case aB => exact (by repeat (first | (with_reducible first | exact HB.out | apply below_alloc | apply pw_below_drewN | apply below_drew1) | exact HB.out))); (case aF => exact (fun _ _ => trivial)); (case aO => exact (by (with_reducible repeat (first | apply Kd.R_alloc | apply Kd.R_drewN | apply Kd.R_drew)); exact HO_9.out)); (case aS => exact (below_size (by repeat (first | (with_reducible first | exact HB.out | apply below_alloc | apply pw_below_drewN | apply below_drew1) | exact HB.out)))); (case aL => have := LMc9.out; omega); intro v109 w10 ho hb hg hat; rw [← Ny108.out] at ho; have n0_ := Aside0.mk (hb); have n1_ := Aside0.mk (ho); clear HB; clear HO_9; have HB := n0_; have HO110 := n1_; clear n0_ n1_; clear ho hb hg hat))
                go_roundg k2
                case measure => have := HJ4.out; have := HK2.out; omega
                case rel => exact ⟨(IntKind.u64.wrap (x7_2 + x8_4)), (y108), (wrap64 (x10_2 + 1)), (by first | rfl | (simp; done) | (simp [*]; done)), (by first | rfl | (simp; done) | (simp [*]; done)), H', ⟨by have := HJ4.out; have := HK2.out; omega⟩, ⟨by (with_reducible repeat (first | apply Kd.R_alloc | apply Kd.R_drewN | apply Kd.R_drew)); exact HO110.out⟩, ⟨by repeat (first | (with_reducible first | exact HB.out | apply below_alloc | apply pw_below_drewN | apply below_drew1) | exact HB.out)⟩⟩
              · rw [if_neg c9] at H
                exact absurd H (by simp)
          · rw [if_neg c7] at H
            have c7b0 : decide (x10_2 < a2) = false := decide_eq_false c7
            clear c7
            obtain rfl := Option.some.inj H
            go_wp2
            go_ret
            exact ⟨_, by first | rfl | (simp [errW_none, errW_some] <;> rfl) | (simp [*, errW_none, errW_some] <;> rfl), by (with_reducible repeat (first | apply Kd.R_alloc | apply Kd.R_drewN | apply Kd.R_drew)); exact HO_9.out, by repeat (first | (with_reducible first | exact HB.out | apply below_alloc | apply pw_below_drewN | apply below_drew1) | exact HB.out)⟩

end Go.Proofs.Ytlehgphnjpgjnaa.PBloomMakes
