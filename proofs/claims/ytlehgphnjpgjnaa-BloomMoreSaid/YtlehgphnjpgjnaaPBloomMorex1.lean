-- Written by wip/xprint of this repo (our own program) out of the translation; what is marked BY HAND is ours. Not trusted: Lean checks it.
import Derived.Test.YtlehgphnjpgjnaaPBloomMorex0
namespace Go.Proofs.Ytlehgphnjpgjnaa.PBloomMore
open Go.RowKit Go.Proofs.YtlehgphnjpgjnaaW.PrintWords Go.Proofs.YtlehgphnjpgjnaaW.PrintLast Go.Proofs.YtlehgphnjpgjnaaW.PrintMore
attribute [local go_sem] max2_int min2_int max_two min_two max_three min_three max_four min_four   -- for this text's walks alone
set_option linter.unusedVariables false
set_option linter.unusedSimpArgs false

/-! ### bloom_Hash: function 43 -/
def bloom_Hash.l0 : Nat → ByteArray → Int → Int → Int → Option (Int)
  | 0, _, _, _, _ => none
  | k + 1, x0, x3, x6, x7 => if x7 < x6 then (if 0 ≤ x7 then (if x7 < (x0.size : Int) then (bloom_Hash.l0 k x0 (IntKind.u64.wrap ((Go.bits .xor .u64 x3 (IntKind.u64.wrap (bt x0 x7))) * 13787848793156543929)) x6 (wrap64 (x7 + 1))) else (none)) else (none)) else (some (Go.bits .xor .u64 (IntKind.u64.wrap ((Go.bits .xor .u64 x3 (x3 / 2147483648)) * 10723151780598845931)) ((IntKind.u64.wrap ((Go.bits .xor .u64 x3 (x3 / 2147483648)) * 10723151780598845931)) / 536870912)))
def bloom_Hash.f (k : Nat) (a0 : ByteArray) : Option (Int) := bloom_Hash.l0 k a0 11400714819323198485 (a0.size : Int) 0
theorem bloom_Hash.mono_l : ∀ k, (∀ y0 y1 y2 y3, LeO (bloom_Hash.l0 k y0 y1 y2 y3) (bloom_Hash.l0 (k + 1) y0 y1 y2 y3))
  | 0 => fun _ _ _ _ r h => by simp [bloom_Hash.l0] at h
  | k + 1 => by
    have ih0 := bloom_Hash.mono_l k
    · intro y0 y1 y2 y3
      unfold bloom_Hash.l0
      repeat' first
      | (with_reducible exact ih0 _ _ _ _)
      | (with_reducible exact LeO.refl _)
      | (with_reducible exact LeO.none _)
      | (with_reducible refine LeO.ite ?_ ?_)
      | (with_reducible refine LeO.bind ?_ (fun _ => ?_))
      | exact ih0 _ _ _ _
      | exact LeO.none _
      | refine LeO.ite ?_ ?_
      | refine LeO.bind ?_ (fun _ => ?_)
theorem bloom_Hash.mono : ∀ a0 k, LeO (bloom_Hash.f k a0) (bloom_Hash.f (k + 1) a0) := by
  intro a0 k
  have ih0 := bloom_Hash.mono_l k
  unfold bloom_Hash.f
  repeat' first
      | (with_reducible exact ih0 _ _ _ _)
      | (with_reducible exact LeO.refl _)
      | (with_reducible exact LeO.none _)
      | (with_reducible refine LeO.ite ?_ ?_)
      | (with_reducible refine LeO.bind ?_ (fun _ => ?_))
      | exact ih0 _ _ _ _
      | exact LeO.none _
      | refine LeO.ite ?_ ?_
      | refine LeO.bind ?_ (fun _ => ?_)
set_option maxHeartbeats 8000000 in
set_option maxRecDepth 100000 in
theorem bloom_Hash.calls (k : Nat) (a0 : ByteArray) (r : Int) (w : World) (h : bloom_Hash.f k a0 = some r) :
    Calls Try.prog 43 #[.string a0] w fun e w' => e = .returned (.int .u64 r) ∧ Drawn0 w w' := by
  have H : (bloom_Hash.l0 k a0 11400714819323198485 (a0.size : Int) 0) = some r := h
  clear h
  have H' := Aside0.mk H
  clear H
  go_enter Try.func43, Try.ntmps43
  go_wp2
  go_loopg [3, 7] k (fun kq v3 v7 w' => ∃ (x3_1 : Int) (x7_1 : Int), v3 = .int .u64 x3_1 ∧ v7 = .int .i64 x7_1 ∧ Aside0 (bloom_Hash.l0 kq a0 x3_1 (a0.size : Int) x7_1 = some r) ∧ Aside0 (kq ≤ k) ∧ Drawn0 w w')
  case atStart => exact ⟨(11400714819323198485), (0), (by first | rfl | (simp; done) | (simp [*]; done)), (by first | rfl | (simp; done) | (simp [*]; done)), H', ⟨Nat.le_refl _⟩, by repeat (first | exact Drawn0.refl _ | apply Drawn0.step)⟩
  case round =>
    clear H'
    obtain ⟨x3_1, x7_1, rfl, rfl, HA, HK1, ⟨m1, rfl⟩⟩ := hrel
    cases gk with
    | zero => exact absurd HA.out (by simp [bloom_Hash.l0])
    | succ k1 =>
      have H := HA.out
      clear HA
      simp only [bloom_Hash.l0] at H
      by_cases c2 : x7_1 < (a0.size : Int)
      · rw [if_pos c2] at H
        have c2b0 : decide (x7_1 < (a0.size : Int)) = true := decide_eq_true c2
        clear c2
        by_cases c3 : 0 ≤ x7_1
        · rw [if_pos c3] at H
          have c3b0 : decide (0 ≤ x7_1) = true := decide_eq_true c3
          clear c3
          by_cases c4 : x7_1 < (a0.size : Int)
          · rw [if_pos c4] at H
            have c4b0 : decide (x7_1 < (a0.size : Int)) = true := decide_eq_true c4
            clear c4
            have H' := Aside0.mk H
            clear H
            have p5 : 0 ≤ (x7_1 : Int) := of_decide_eq_true (by first | (with_reducible assumption) | assumption)
            have q5 : x7_1 < (a0.size : Int) := of_decide_eq_true (by first | (with_reducible assumption) | assumption)
            have hx5 := bt_at a0 x7_1
            replace p5 := eq_true p5
            replace q5 := eq_true q5
            go_wp2
            go_roundg k1
            case measure => have := HK1.out; omega
            case rel => exact ⟨(IntKind.u64.wrap ((Go.bits .xor .u64 x3_1 (IntKind.u64.wrap (bt a0 x7_1))) * 13787848793156543929)), (wrap64 (x7_1 + 1)), (by first | rfl | (simp; done) | (simp [*]; done)), (by first | rfl | (simp; done) | (simp [*]; done)), H', ⟨by have := HK1.out; omega⟩, by repeat (first | exact Drawn0.refl _ | apply Drawn0.step)⟩
          · rw [if_neg c4] at H
            exact absurd H (by simp)
        · rw [if_neg c3] at H
          exact absurd H (by simp)
      · rw [if_neg c2] at H
        have c2b0 : decide (x7_1 < (a0.size : Int)) = false := decide_eq_false c2
        clear c2
        obtain rfl := Option.some.inj H
        go_wp2
        go_ret
        exact ⟨by first | rfl | (simp; done) | (simp [*]; done), by repeat (first | exact Drawn0.refl _ | apply Drawn0.step)⟩

-- NOT PRINTED: function 58 (bloom_filter_spot)

-- NOT PRINTED: function 53 (bloom_filter_each)

/-! ### ours: bl_each -/

set_option maxHeartbeats 4000000 in
set_option maxRecDepth 100000 in
theorem bl_spot (A : Addr) (n c : Nat) (p q : Int) (w : World) (h0 : 0 ≤ q) (h1 : q / 8 < n) (hn : n ≤ c) (hs : n ≤ 8192) :
    Calls Try.prog 58 #[.agg #[.slice (some A) n c, .int .i64 p], .int .u64 q] w fun e w' =>
      e = .returned (.tuple #[.slice (some (A.add (q / 8).toNat)) 1 1, .int .u8 (2 ^ (q % 8).toNat % 256)]) ∧ Below w.heap.size w w' := by
  have hu69 := Try.underlying69
  have HB := Aside0.mk (Below.refl w.heap.size w)
  have e1 : IntKind.i64.wrap (q / 8) = q / 8 := by simp [IntKind.wrap, IntKind.bits]; omega
  go_enter Try.func58, Try.ntmps58
  go_wp2_with (first | ((with_reducible refine gate_dst (N := 2) rfl ?_); refine box_event ?hg (N := 2) ?hd (cs := #[.slice (some A) n c, .int .i64 p]) (t := 69) ?hr ?_; (case hd => rfl); (case hg => rfl); (case hr => first | (go_simp; done) | (go_simp; rfl)); intro g2 hg w1 hbox hb; have m0 := Aside0.mk (below_step (by repeat (first | (with_reducible first | exact HB.out | apply below_alloc | apply pw_below_drewN | apply below_drew1) | exact HB.out)) hb); have m1 := Aside0.mk hbox; have m2 := Aside0.mk ((by rw [hg]; exact (below_size (by repeat (first | (with_reducible first | exact HB.out | apply below_alloc | apply pw_below_drewN | apply below_drew1) | exact HB.out))) : w.heap.size ≤ g2)); clear HB; have HB := m0; have B2 := m1; have G2 := m2; clear m0 m1 m2; clear hb hbox hg; have hc0 := blk_cell B2.out 0; have hc1 := blk_cell B2.out 1; simp only [List.getElem?_toArray, List.getElem?_cons_zero, List.getElem?_cons_succ] at hc0 hc1))
  have e2 : (q / 8 + 1).toNat - (q / 8).toNat = 1 := by omega
  rw [e2]
  go_ret2
  exact ⟨rfl, by repeat (first | (with_reducible first | exact HB.out | apply below_alloc | apply pw_below_drewN | apply below_drew1) | exact HB.out)⟩

set_option maxHeartbeats 4000000 in
set_option maxRecDepth 100000 in
theorem bl_mk1 (g i cap b : Nat) (ok : Nat → Prop) (xs : List Int) (m : Int) (w : World) (hR : (Kd.int .u8).R 5 w b ok (.slice (some ⟨g, 0, none⟩) xs.length cap) xs) (hi : i < xs.length) :
    Calls Try.prog 54 #[.slice (some ⟨g, i, none⟩) 1 1, .int .u8 m] w fun e w' =>
      e = .returned (.bool true) ∧ w' = w.setCell ⟨g, i, none⟩ (.int .u8 (Go.bits .or .u8 (rd xs i) m)) := by
  have hc := Kd.R_celln (d := 0) hR (i : Int) (by omega) (by omega)
  have c0 : w.cell? ⟨g, i, none⟩ = some (.int .u8 (rd xs i)) := hc.1
  have f0 : w.frozen? ⟨g, i, none⟩ = false := hc.2
  go_enter Try.func54, Try.ntmps54
  go_wp2
  go_ret
  exact ⟨rfl, rfl⟩
set_option maxHeartbeats 4000000 in
set_option maxRecDepth 100000 in
theorem bl_has1 (A : Addr) (x m : Int) (w : World) (c0 : w.cell? A = some (.int .u8 x)) :
    Calls Try.prog 57 #[.slice (some A) 1 1, .int .u8 m] w fun e w' =>
      e = .returned (.bool (Go.bits .and .u8 x m != 0)) ∧ w' = w := by
  go_enter Try.func57, Try.ntmps57
  go_wp2
  go_ret
  exact ⟨rfl, rfl⟩

def bl_step (h : Int) : Int := if h / 8589934592 = 0 then 1 else h / 8589934592
def bl_mark (xs : List Int) (p : Int) : List Int := xs.set (1 + p / 8).toNat (Go.bits .or .u8 (rd xs (1 + p / 8)) (2 ^ (p % 8).toNat % 256))
def bl_marks (m s : Int) : Nat → Int → List Int → List Int
  | 0, _, xs => xs
  | n + 1, h, xs => bl_marks m s n (IntKind.u64.wrap (h + s)) (bl_mark xs (h % m))
def bl_has (m s : Int) (l : List Int) : Nat → Int → Bool
  | 0, _ => true
  | n + 1, h => if (Go.bits .and .u8 (rd l (h % m / 8)) (2 ^ (h % m % 8).toNat % 256) != 0) = true then bl_has m s l n (IntKind.u64.wrap (h + s)) else false

def bl_kb (g : Nat) (w w' : World) : Prop := w.heap.size ≤ w'.heap.size ∧ ∀ k, k < w.heap.size → k ≠ g → w'.heap[k]? = w.heap[k]?
theorem bl_kb_refl (g : Nat) (w : World) : bl_kb g w w := ⟨Nat.le_refl _, fun _ _ _ => rfl⟩
theorem bl_kb_below {g : Nat} {w W w2 : World} (h : bl_kb g w W) (hb : Below W.heap.size W w2) : bl_kb g w w2 := ⟨Nat.le_trans h.1 hb.size, fun k hk hg => (hb.block k (Nat.lt_of_lt_of_le hk h.1)).trans (h.2 k hk hg)⟩
theorem bl_kb_drewN {g : Nat} {w W : World} (h : bl_kb g w W) (n : Nat) : bl_kb g w (W.drewN n) := bl_kb_below h (pw_below_drewN (Below.refl _ _) n)
theorem bl_kb_drew {g : Nat} {w W : World} (h : bl_kb g w W) : bl_kb g w W.drew := bl_kb_below h (below_drew (Below.refl _ _))
theorem bl_kb_alloc {g : Nat} {w W : World} (h : bl_kb g w W) (o : Obj) : bl_kb g w (W.alloc o) := bl_kb_below h (below_alloc (Below.refl _ _) o)
theorem bl_kb_set {g j : Nat} {v : Value} {w W : World} (h : bl_kb g w W) (hs : W.heap.size ≤ (W.setCell ⟨g, j, none⟩ v).heap.size) : bl_kb g w (W.setCell ⟨g, j, none⟩ v) := ⟨Nat.le_trans h.1 hs, fun k hk hg => (Below.heap_setCell W ⟨g, j, none⟩ v k hg).trans (h.2 k hk hg)⟩

set_option maxHeartbeats 8000000 in
set_option maxRecDepth 100000 in
theorem bl_eachHas (A : Addr) (l : List Int) (c : Nat) (p : Nat) (key : ByteArray) (h : Int) (w : World) (hC : Kd.C (Kd.int .u8) w (some A) l.length l) (hc : l.length ≤ c) (h1 : 8 ≤ l.length) (h2 : l.length ≤ 8192) (hp : p ≤ 16) (hh : bloom_Hash.f (key.size + 1) key = some h) (hh0 : 0 ≤ h) (r : Bool) (hrr : bl_has (8 * (l.length : Int)) (bl_step h) l p h = r) :
    Calls Try.prog 53 #[.agg #[.slice (some A) l.length c, .int .i64 (p : Int)], .string key, .func (.func 57) #[] #[]] w fun e w' => e = .returned (.bool r) ∧ Below w.heap.size w w' := by
  have hu69 := Try.underlying69
  have HC := Aside0.mk hC
  clear hC
  have HB := Aside0.mk (Below.refl w.heap.size w)
  have HRS0 := Aside0.mk hrr
  clear hrr
  have hm : IntKind.u64.wrap (8 * IntKind.u64.wrap (l.length : Int)) = 8 * (l.length : Int) := by simp [IntKind.wrap, IntKind.bits]; omega
  by_cases c3 : h / 8589934592 = 0
  · have c3b : decide (h / 8589934592 = 0) = true := decide_eq_true c3
    have c3c : (h / 8589934592 == 0) = true := by simpa using c3
    have HRS : Aside0 (bl_has (8 * (l.length : Int)) 1 l p h = r) := ⟨by have q := HRS0.out; rw [show bl_step h = 1 from if_pos c3] at q; exact q⟩
    clear HRS0
    go_enter Try.func53, Try.ntmps53
    go_wp2_with (first | ((with_reducible refine gate_dst (N := 3) rfl ?_); refine box_event ?hg (N := 3) ?hd (cs := #[.slice (some A) l.length c, .int .i64 (p : Int)]) (t := 69) ?hr ?_; (case hd => rfl); (case hg => rfl); (case hr => first | (go_simp; done) | (go_simp; rfl)); intro g2 hg w1 hbox hb; have m0 := Aside0.mk (below_step (by repeat (first | (with_reducible first | exact HB.out | apply below_alloc | apply pw_below_drewN | apply below_drew1) | exact HB.out)) hb); have m1 := Aside0.mk hbox; have m2 := Aside0.mk ((by rw [hg]; exact (below_size (by repeat (first | (with_reducible first | exact HB.out | apply below_alloc | apply pw_below_drewN | apply below_drew1) | exact HB.out))) : w.heap.size ≤ g2)); have m3 := Aside0.mk (Kd.C_below (by (with_reducible repeat (first | apply Kd.C_alloc | apply Kd.C_drewN | apply Kd.C_drew)); exact HC.out) hb); clear HB HC; have HB := m0; have B2 := m1; have G2 := m2; have HC := m3; clear m0 m1 m2 m3; clear hb hbox hg) | ((with_reducible refine gate_callee (f := 43) rfl ?_); refine goesL_ (some 13) rfl rfl Try.func43 (by kernel_rfl) rfl #[.string key] rfl (by (try simp only [List.map_toArray, List.map_cons, List.map_nil]); first | done | rfl) ?_; (with_reducible refine (bloom_Hash.calls _ key h _ hh).mono ?_); rintro e w2 ⟨rfl, ⟨⟨nd, rfl⟩⟩⟩; refine ⟨_, rfl, ?_⟩; have hc0 := blk_cell B2.out 0; have hc1 := blk_cell B2.out 1; simp only [List.getElem?_toArray, List.getElem?_cons_zero, List.getElem?_cons_succ] at hc0 hc1))
    have hc0 := blk_cell B2.out 0
    have hc1 := blk_cell B2.out 1
    simp only [List.getElem?_toArray, List.getElem?_cons_zero, List.getElem?_cons_succ] at hc0 hc1
    go_loopg [7, 25] p (fun kq v7 v25 w' => ∃ (x : Int) (j : Nat), v7 = .int .u64 x ∧ v25 = .int .i64 (j : Int) ∧ Aside0 (0 ≤ x) ∧ Aside0 (kq + j = p) ∧ Aside0 (bl_has (8 * (l.length : Int)) 1 l kq x = r) ∧ Aside0 (Kd.C (Kd.int .u8) w' (some A) l.length l) ∧ Aside0 (w'.heap[g2]? = some (.cells #[.slice (some A) l.length c, .int .i64 (p : Int)] 69 (0, 0))) ∧ Aside0 (Below w.heap.size w w'))
    case atStart => exact ⟨h, 0, rfl, rfl, ⟨hh0⟩, ⟨rfl⟩, HRS, ⟨(by (with_reducible repeat (first | apply Kd.C_alloc | apply Kd.C_drewN | apply Kd.C_drew)); exact HC.out)⟩, ⟨(by (with_reducible repeat (first | refine blk_drewN ?_ _ | refine blk_drew ?_ | refine blk_alloc ?_ _)); exact B2.out)⟩, ⟨by repeat (first | (with_reducible first | exact HB.out | apply below_alloc | apply pw_below_drewN | apply below_drew1) | exact HB.out)⟩⟩
    case round =>
      clear HC  B2 HB HRS hc0 hc1
      obtain ⟨x, j, rfl, rfl, HX, HK, HRS, HC, B2, HB⟩ := hrel
      cases gk with
      | zero =>
        have ej : j = p := by have := HK.out; omega
        subst ej
        have hr := HRS.out
        simp only [bl_has] at hr
        subst hr
        go_wp2
        go_ret
        exact ⟨rfl, by repeat (first | (with_reducible first | exact HB.out | apply below_alloc | apply pw_below_drewN | apply below_drew1) | exact HB.out)⟩
      | succ n =>
        have hjp := Aside0.mk (show j < p by have := HK.out; omega)
        have hjb : decide ((j : Int) < (p : Int)) = true := decide_eq_true (by have := hjp.out; omega)
        have hjb' : decide (j < p) = true := decide_eq_true hjp.out
        have hx0 := HX.out
        have hz : ¬ (8 * (l.length : Int)) = 0 := by omega
        obtain ⟨q, hq⟩ : ∃ q, Int.tmod x (8 * (l.length : Int)) = q := ⟨_, rfl⟩
        have het : q = x % (8 * (l.length : Int)) := hq.symm.trans (Int.tmod_eq_emod_of_nonneg hx0)
        have hq0 := Aside0.mk (show 0 ≤ q by rw [het]; exact Int.emod_nonneg _ hz)
        have hq1 := Aside0.mk (show q / 8 < l.length by rw [het]; have := Int.emod_lt_of_pos x (show (0 : Int) < 8 * (l.length : Int) by omega); omega)
        have hr := HRS.out
        simp only [bl_has] at hr
        rw [← het] at hr
        clear HRS
        have het' := Aside0.mk het
        clear het
        have hw0 : 0 ≤ IntKind.u64.wrap (x + 1) := by rw [show IntKind.u64.wrap (x + 1) = (x + 1) % 18446744073709551616 from by simp [IntKind.wrap, IntKind.bits, IntKind.signed]]; omega
        have HW0 := Aside0.mk hw0
        clear hw0
        cases hbv : (Go.bits .and .u8 (rd l (q / 8)) (2 ^ (q % 8).toNat % 256) != 0)
        all_goals rw [hbv] at hr
        all_goals have HBV := Aside0.mk hbv
        all_goals clear hbv
        case false =>
          have hr' : false = r := hr
          subst hr'
          clear hr
          have hc0 := blk_cell B2.out 0
          have hc1 := blk_cell B2.out 1
          simp only [List.getElem?_toArray, List.getElem?_cons_zero, List.getElem?_cons_succ] at hc0 hc1
          go_wp2
          go_region_with (first | ((with_reducible refine (bl_spot A l.length c p q _ hq0.out hq1.out hc h2).mono ?_); rintro e w8 ⟨rfl, hb⟩; have m0 := Aside0.mk (below_step (by repeat (first | (with_reducible first | exact HB.out | apply below_alloc | apply pw_below_drewN | apply below_drew1) | exact HB.out)) hb); have m1 := Aside0.mk (Kd.C_below (by (with_reducible repeat (first | apply Kd.C_alloc | apply Kd.C_drewN | apply Kd.C_drew)); exact HC.out) hb); have m2 := Aside0.mk (blk_below (g := g2) (o := .cells #[.slice (some A) l.length c, .int .i64 (p : Int)] 69 (0, 0)) (by (with_reducible repeat (first | refine blk_drewN ?_ _ | refine blk_drew ?_ | refine blk_alloc ?_ _)); exact B2.out) hb); clear HB HC B2 hb; have HB := m0; have HC := m1; have B2 := m2; clear m0 m1 m2; dsimp only))
          clear hc0 hc1
          obtain ⟨ad_, ea_, hcell⟩ := (Kd.reads_of_C (d := 0) HC.out).at_ (q / 8) (Int.ediv_nonneg hq0.out (by decide)) hq1.out
          obtain rfl := Option.some.inj ea_
          clear ea_
          have hcell' : _ = some (Value.int .u8 (rd l (q / 8))) := hcell
          clear hcell
          have hbv := HBV.out
          go_wp2
          go_ret
          exact ⟨rfl, by repeat (first | (with_reducible first | exact HB.out | apply below_alloc | apply pw_below_drewN | apply below_drew1) | exact HB.out)⟩
        case true =>
          have hr' : bl_has (8 * (l.length : Int)) 1 l n (IntKind.u64.wrap (x + 1)) = r := hr
          have HRS := Aside0.mk hr'
          clear hr hr'
          have hc0 := blk_cell B2.out 0
          have hc1 := blk_cell B2.out 1
          simp only [List.getElem?_toArray, List.getElem?_cons_zero, List.getElem?_cons_succ] at hc0 hc1
          go_wp2
          go_region_with (first | ((with_reducible refine (bl_spot A l.length c p q _ hq0.out hq1.out hc h2).mono ?_); rintro e w8 ⟨rfl, hb⟩; have m0 := Aside0.mk (below_step (by repeat (first | (with_reducible first | exact HB.out | apply below_alloc | apply pw_below_drewN | apply below_drew1) | exact HB.out)) hb); have m1 := Aside0.mk (Kd.C_below (by (with_reducible repeat (first | apply Kd.C_alloc | apply Kd.C_drewN | apply Kd.C_drew)); exact HC.out) hb); have m2 := Aside0.mk (blk_below (g := g2) (o := .cells #[.slice (some A) l.length c, .int .i64 (p : Int)] 69 (0, 0)) (by (with_reducible repeat (first | refine blk_drewN ?_ _ | refine blk_drew ?_ | refine blk_alloc ?_ _)); exact B2.out) hb); clear HB HC B2 hb; have HB := m0; have HC := m1; have B2 := m2; clear m0 m1 m2; dsimp only))
          clear hc0 hc1
          obtain ⟨ad_, ea_, hcell⟩ := (Kd.reads_of_C (d := 0) HC.out).at_ (q / 8) (Int.ediv_nonneg hq0.out (by decide)) hq1.out
          obtain rfl := Option.some.inj ea_
          clear ea_
          have hcell' : _ = some (Value.int .u8 (rd l (q / 8))) := hcell
          clear hcell
          have hbv := HBV.out
          go_wp2
          go_roundg n
          case measure => omega
          case rel => exact ⟨_, j + 1, rfl, by rw [show wrap64 ((j : Int) + 1) = ((j + 1 : Nat) : Int) from by have := hjp.out; unfold wrap64; omega], HW0, ⟨by have := HK.out; omega⟩, HRS, ⟨(by (with_reducible repeat (first | apply Kd.C_alloc | apply Kd.C_drewN | apply Kd.C_drew)); exact HC.out)⟩, ⟨(by (with_reducible repeat (first | refine blk_drewN ?_ _ | refine blk_drew ?_ | refine blk_alloc ?_ _)); exact B2.out)⟩, ⟨by repeat (first | (with_reducible first | exact HB.out | apply below_alloc | apply pw_below_drewN | apply below_drew1) | exact HB.out)⟩⟩
    
  · have c3b : decide (h / 8589934592 = 0) = false := decide_eq_false c3
    have c3c : (h / 8589934592 == 0) = false := by simpa using c3
    have HRS : Aside0 (bl_has (8 * (l.length : Int)) (h / 8589934592) l p h = r) := ⟨by have q := HRS0.out; rw [show bl_step h = h / 8589934592 from if_neg c3] at q; exact q⟩
    clear HRS0
    go_enter Try.func53, Try.ntmps53
    go_wp2_with (first | ((with_reducible refine gate_dst (N := 3) rfl ?_); refine box_event ?hg (N := 3) ?hd (cs := #[.slice (some A) l.length c, .int .i64 (p : Int)]) (t := 69) ?hr ?_; (case hd => rfl); (case hg => rfl); (case hr => first | (go_simp; done) | (go_simp; rfl)); intro g2 hg w1 hbox hb; have m0 := Aside0.mk (below_step (by repeat (first | (with_reducible first | exact HB.out | apply below_alloc | apply pw_below_drewN | apply below_drew1) | exact HB.out)) hb); have m1 := Aside0.mk hbox; have m2 := Aside0.mk ((by rw [hg]; exact (below_size (by repeat (first | (with_reducible first | exact HB.out | apply below_alloc | apply pw_below_drewN | apply below_drew1) | exact HB.out))) : w.heap.size ≤ g2)); have m3 := Aside0.mk (Kd.C_below (by (with_reducible repeat (first | apply Kd.C_alloc | apply Kd.C_drewN | apply Kd.C_drew)); exact HC.out) hb); clear HB HC; have HB := m0; have B2 := m1; have G2 := m2; have HC := m3; clear m0 m1 m2 m3; clear hb hbox hg) | ((with_reducible refine gate_callee (f := 43) rfl ?_); refine goesL_ (some 13) rfl rfl Try.func43 (by kernel_rfl) rfl #[.string key] rfl (by (try simp only [List.map_toArray, List.map_cons, List.map_nil]); first | done | rfl) ?_; (with_reducible refine (bloom_Hash.calls _ key h _ hh).mono ?_); rintro e w2 ⟨rfl, ⟨⟨nd, rfl⟩⟩⟩; refine ⟨_, rfl, ?_⟩; have hc0 := blk_cell B2.out 0; have hc1 := blk_cell B2.out 1; simp only [List.getElem?_toArray, List.getElem?_cons_zero, List.getElem?_cons_succ] at hc0 hc1))
    have hc0 := blk_cell B2.out 0
    have hc1 := blk_cell B2.out 1
    simp only [List.getElem?_toArray, List.getElem?_cons_zero, List.getElem?_cons_succ] at hc0 hc1
    go_loopg [7, 25] p (fun kq v7 v25 w' => ∃ (x : Int) (j : Nat), v7 = .int .u64 x ∧ v25 = .int .i64 (j : Int) ∧ Aside0 (0 ≤ x) ∧ Aside0 (kq + j = p) ∧ Aside0 (bl_has (8 * (l.length : Int)) (h / 8589934592) l kq x = r) ∧ Aside0 (Kd.C (Kd.int .u8) w' (some A) l.length l) ∧ Aside0 (w'.heap[g2]? = some (.cells #[.slice (some A) l.length c, .int .i64 (p : Int)] 69 (0, 0))) ∧ Aside0 (Below w.heap.size w w'))
    case atStart => exact ⟨h, 0, rfl, rfl, ⟨hh0⟩, ⟨rfl⟩, HRS, ⟨(by (with_reducible repeat (first | apply Kd.C_alloc | apply Kd.C_drewN | apply Kd.C_drew)); exact HC.out)⟩, ⟨(by (with_reducible repeat (first | refine blk_drewN ?_ _ | refine blk_drew ?_ | refine blk_alloc ?_ _)); exact B2.out)⟩, ⟨by repeat (first | (with_reducible first | exact HB.out | apply below_alloc | apply pw_below_drewN | apply below_drew1) | exact HB.out)⟩⟩
    case round =>
      clear HC  B2 HB HRS hc0 hc1
      obtain ⟨x, j, rfl, rfl, HX, HK, HRS, HC, B2, HB⟩ := hrel
      cases gk with
      | zero =>
        have ej : j = p := by have := HK.out; omega
        subst ej
        have hr := HRS.out
        simp only [bl_has] at hr
        subst hr
        go_wp2
        go_ret
        exact ⟨rfl, by repeat (first | (with_reducible first | exact HB.out | apply below_alloc | apply pw_below_drewN | apply below_drew1) | exact HB.out)⟩
      | succ n =>
        have hjp := Aside0.mk (show j < p by have := HK.out; omega)
        have hjb : decide ((j : Int) < (p : Int)) = true := decide_eq_true (by have := hjp.out; omega)
        have hjb' : decide (j < p) = true := decide_eq_true hjp.out
        have hx0 := HX.out
        have hz : ¬ (8 * (l.length : Int)) = 0 := by omega
        obtain ⟨q, hq⟩ : ∃ q, Int.tmod x (8 * (l.length : Int)) = q := ⟨_, rfl⟩
        have het : q = x % (8 * (l.length : Int)) := hq.symm.trans (Int.tmod_eq_emod_of_nonneg hx0)
        have hq0 := Aside0.mk (show 0 ≤ q by rw [het]; exact Int.emod_nonneg _ hz)
        have hq1 := Aside0.mk (show q / 8 < l.length by rw [het]; have := Int.emod_lt_of_pos x (show (0 : Int) < 8 * (l.length : Int) by omega); omega)
        have hr := HRS.out
        simp only [bl_has] at hr
        rw [← het] at hr
        clear HRS
        have het' := Aside0.mk het
        clear het
        have hw0 : 0 ≤ IntKind.u64.wrap (x + (h / 8589934592)) := by rw [show IntKind.u64.wrap (x + (h / 8589934592)) = (x + (h / 8589934592)) % 18446744073709551616 from by simp [IntKind.wrap, IntKind.bits, IntKind.signed]]; omega
        have HW0 := Aside0.mk hw0
        clear hw0
        cases hbv : (Go.bits .and .u8 (rd l (q / 8)) (2 ^ (q % 8).toNat % 256) != 0)
        all_goals rw [hbv] at hr
        all_goals have HBV := Aside0.mk hbv
        all_goals clear hbv
        case false =>
          have hr' : false = r := hr
          subst hr'
          clear hr
          have hc0 := blk_cell B2.out 0
          have hc1 := blk_cell B2.out 1
          simp only [List.getElem?_toArray, List.getElem?_cons_zero, List.getElem?_cons_succ] at hc0 hc1
          go_wp2
          go_region_with (first | ((with_reducible refine (bl_spot A l.length c p q _ hq0.out hq1.out hc h2).mono ?_); rintro e w8 ⟨rfl, hb⟩; have m0 := Aside0.mk (below_step (by repeat (first | (with_reducible first | exact HB.out | apply below_alloc | apply pw_below_drewN | apply below_drew1) | exact HB.out)) hb); have m1 := Aside0.mk (Kd.C_below (by (with_reducible repeat (first | apply Kd.C_alloc | apply Kd.C_drewN | apply Kd.C_drew)); exact HC.out) hb); have m2 := Aside0.mk (blk_below (g := g2) (o := .cells #[.slice (some A) l.length c, .int .i64 (p : Int)] 69 (0, 0)) (by (with_reducible repeat (first | refine blk_drewN ?_ _ | refine blk_drew ?_ | refine blk_alloc ?_ _)); exact B2.out) hb); clear HB HC B2 hb; have HB := m0; have HC := m1; have B2 := m2; clear m0 m1 m2; dsimp only))
          clear hc0 hc1
          obtain ⟨ad_, ea_, hcell⟩ := (Kd.reads_of_C (d := 0) HC.out).at_ (q / 8) (Int.ediv_nonneg hq0.out (by decide)) hq1.out
          obtain rfl := Option.some.inj ea_
          clear ea_
          have hcell' : _ = some (Value.int .u8 (rd l (q / 8))) := hcell
          clear hcell
          have hbv := HBV.out
          go_wp2
          go_ret
          exact ⟨rfl, by repeat (first | (with_reducible first | exact HB.out | apply below_alloc | apply pw_below_drewN | apply below_drew1) | exact HB.out)⟩
        case true =>
          have hr' : bl_has (8 * (l.length : Int)) (h / 8589934592) l n (IntKind.u64.wrap (x + (h / 8589934592))) = r := hr
          have HRS := Aside0.mk hr'
          clear hr hr'
          have hc0 := blk_cell B2.out 0
          have hc1 := blk_cell B2.out 1
          simp only [List.getElem?_toArray, List.getElem?_cons_zero, List.getElem?_cons_succ] at hc0 hc1
          go_wp2
          go_region_with (first | ((with_reducible refine (bl_spot A l.length c p q _ hq0.out hq1.out hc h2).mono ?_); rintro e w8 ⟨rfl, hb⟩; have m0 := Aside0.mk (below_step (by repeat (first | (with_reducible first | exact HB.out | apply below_alloc | apply pw_below_drewN | apply below_drew1) | exact HB.out)) hb); have m1 := Aside0.mk (Kd.C_below (by (with_reducible repeat (first | apply Kd.C_alloc | apply Kd.C_drewN | apply Kd.C_drew)); exact HC.out) hb); have m2 := Aside0.mk (blk_below (g := g2) (o := .cells #[.slice (some A) l.length c, .int .i64 (p : Int)] 69 (0, 0)) (by (with_reducible repeat (first | refine blk_drewN ?_ _ | refine blk_drew ?_ | refine blk_alloc ?_ _)); exact B2.out) hb); clear HB HC B2 hb; have HB := m0; have HC := m1; have B2 := m2; clear m0 m1 m2; dsimp only))
          clear hc0 hc1
          obtain ⟨ad_, ea_, hcell⟩ := (Kd.reads_of_C (d := 0) HC.out).at_ (q / 8) (Int.ediv_nonneg hq0.out (by decide)) hq1.out
          obtain rfl := Option.some.inj ea_
          clear ea_
          have hcell' : _ = some (Value.int .u8 (rd l (q / 8))) := hcell
          clear hcell
          have hbv := HBV.out
          go_wp2
          go_roundg n
          case measure => omega
          case rel => exact ⟨_, j + 1, rfl, by rw [show wrap64 ((j : Int) + 1) = ((j + 1 : Nat) : Int) from by have := hjp.out; unfold wrap64; omega], HW0, ⟨by have := HK.out; omega⟩, HRS, ⟨(by (with_reducible repeat (first | apply Kd.C_alloc | apply Kd.C_drewN | apply Kd.C_drew)); exact HC.out)⟩, ⟨(by (with_reducible repeat (first | refine blk_drewN ?_ _ | refine blk_drew ?_ | refine blk_alloc ?_ _)); exact B2.out)⟩, ⟨by repeat (first | (with_reducible first | exact HB.out | apply below_alloc | apply pw_below_drewN | apply below_drew1) | exact HB.out)⟩⟩
    

set_option maxHeartbeats 8000000 in
set_option maxRecDepth 100000 in
theorem bl_eachMake (g nb cb : Nat) (ok : Nat → Prop) (xs0 : List Int) (p : Nat) (key : ByteArray) (h : Int) (W0 w : World) (hB : Below W0.heap.size W0 w) (hR : (Kd.int .u8).R 5 w W0.heap.size ok (.slice (some ⟨g, 0, none⟩) (nb + 1) (cb + 1)) xs0) (hbg : W0.heap.size ≤ g) (hgw : g < w.heap.size) (hc : nb ≤ cb) (h1 : 8 ≤ nb) (h2 : nb ≤ 8192) (hp : p ≤ 16) (hh : bloom_Hash.f (key.size + 1) key = some h) (hh0 : 0 ≤ h) (r : List Int) (hrr : bl_marks (8 * (nb : Int)) (bl_step h) p h xs0 = r) :
    Calls Try.prog 53 #[.agg #[.slice (some ⟨g, 1, none⟩) nb cb, .int .i64 (p : Int)], .string key, .func (.func 54) #[] #[]] w fun e w' => e = .returned (.bool true) ∧ Below W0.heap.size W0 w' ∧ bl_kb g w w' ∧ (Kd.int .u8).R 5 w' W0.heap.size ok (.slice (some ⟨g, 0, none⟩) (nb + 1) (cb + 1)) r := by
  have hu69 := Try.underlying69
  have HR := Aside0.mk hR
  clear hR
  have HB := Aside0.mk hB
  clear hB
  have KBF := Aside0.mk (bl_kb_refl g w)
  have HRS0 := Aside0.mk hrr
  clear hrr
  have hm : IntKind.u64.wrap (8 * IntKind.u64.wrap (nb : Int)) = 8 * (nb : Int) := by simp [IntKind.wrap, IntKind.bits]; omega
  by_cases c3 : h / 8589934592 = 0
  · have c3b : decide (h / 8589934592 = 0) = true := decide_eq_true c3
    have c3c : (h / 8589934592 == 0) = true := by simpa using c3
    have HRS : Aside0 (bl_marks (8 * (nb : Int)) 1 p h xs0 = r) := ⟨by have q := HRS0.out; rw [show bl_step h = 1 from if_pos c3] at q; exact q⟩
    clear HRS0
    go_enter Try.func53, Try.ntmps53
    go_wp2_with (first | ((with_reducible refine gate_dst (N := 3) rfl ?_); refine box_event ?hg (N := 3) ?hd (cs := #[.slice (some ⟨g, 1, none⟩) nb cb, .int .i64 (p : Int)]) (t := 69) ?hr ?_; (case hd => rfl); (case hg => rfl); (case hr => first | (go_simp; done) | (go_simp; rfl)); intro g2 hg w1 hbox hb; have m0 := Aside0.mk (below_step (by repeat (first | (with_reducible first | exact HB.out | apply below_alloc | apply pw_below_drewN | apply below_drew1 | refine below_set ?_ hbg) | exact HB.out)) hb); have m1 := Aside0.mk hbox; have m2 := Aside0.mk ((by rw [hg]; exact Nat.le_of_eq rfl : w.heap.size ≤ g2)); have m3 := Aside0.mk (Kd.R_below (by (with_reducible repeat (first | apply Kd.R_alloc | apply Kd.R_drewN | apply Kd.R_drew)); exact HR.out) hb); have m4 := Aside0.mk (bl_kb_below (by (with_reducible repeat (first | apply bl_kb_alloc | apply bl_kb_drewN | apply bl_kb_drew)); exact KBF.out) hb); clear HB KBF HR; have HB := m0; have KBF := m4; have B2 := m1; have G2 := m2; have HR := m3; clear m0 m1 m2 m3 m4; clear hb hbox hg) | ((with_reducible refine gate_callee (f := 43) rfl ?_); refine goesL_ (some 13) rfl rfl Try.func43 (by kernel_rfl) rfl #[.string key] rfl (by (try simp only [List.map_toArray, List.map_cons, List.map_nil]); first | done | rfl) ?_; (with_reducible refine (bloom_Hash.calls _ key h _ hh).mono ?_); rintro e w2 ⟨rfl, ⟨⟨nd, rfl⟩⟩⟩; refine ⟨_, rfl, ?_⟩; have hc0 := blk_cell B2.out 0; have hc1 := blk_cell B2.out 1; simp only [List.getElem?_toArray, List.getElem?_cons_zero, List.getElem?_cons_succ] at hc0 hc1))
    have hc0 := blk_cell B2.out 0
    have hc1 := blk_cell B2.out 1
    simp only [List.getElem?_toArray, List.getElem?_cons_zero, List.getElem?_cons_succ] at hc0 hc1
    go_loopg [7, 25] p (fun kq v7 v25 w' => ∃ (x : Int) (j : Nat) (xs : List Int), v7 = .int .u64 x ∧ v25 = .int .i64 (j : Int) ∧ Aside0 (0 ≤ x) ∧ Aside0 (kq + j = p) ∧ Aside0 (bl_marks (8 * (nb : Int)) 1 kq x xs = r) ∧ Aside0 ((Kd.int .u8).R 5 w' W0.heap.size ok (.slice (some ⟨g, 0, none⟩) (nb + 1) (cb + 1)) xs) ∧ Aside0 (bl_kb g w w') ∧ Aside0 (w'.heap[g2]? = some (.cells #[.slice (some ⟨g, 1, none⟩) nb cb, .int .i64 (p : Int)] 69 (0, 0))) ∧ Aside0 (Below W0.heap.size W0 w'))
    case atStart => exact ⟨h, 0, xs0, rfl, rfl, ⟨hh0⟩, ⟨rfl⟩, HRS, ⟨(by (with_reducible repeat (first | apply Kd.R_alloc | apply Kd.R_drewN | apply Kd.R_drew)); exact HR.out)⟩, ⟨(by (with_reducible repeat (first | apply bl_kb_alloc | apply bl_kb_drewN | apply bl_kb_drew)); exact KBF.out)⟩, ⟨(by (with_reducible repeat (first | refine blk_drewN ?_ _ | refine blk_drew ?_ | refine blk_alloc ?_ _)); exact B2.out)⟩, ⟨by repeat (first | (with_reducible first | exact HB.out | apply below_alloc | apply pw_below_drewN | apply below_drew1 | refine below_set ?_ hbg) | exact HB.out)⟩⟩
    case round =>
      clear HR KBF B2 HB HRS hc0 hc1
      obtain ⟨x, j, xs, rfl, rfl, HX, HK, HRS, HR, KBF, B2, HB⟩ := hrel
      cases gk with
      | zero =>
        have ej : j = p := by have := HK.out; omega
        subst ej
        have hr := HRS.out
        simp only [bl_marks] at hr
        subst hr
        go_wp2
        go_ret
        exact ⟨rfl, (by repeat (first | (with_reducible first | exact HB.out | apply below_alloc | apply pw_below_drewN | apply below_drew1 | refine below_set ?_ hbg) | exact HB.out)), (by (with_reducible repeat (first | apply bl_kb_alloc | apply bl_kb_drewN | apply bl_kb_drew)); exact KBF.out), (by (with_reducible repeat (first | apply Kd.R_alloc | apply Kd.R_drewN | apply Kd.R_drew)); exact HR.out)⟩
      | succ n =>
        have hjp := Aside0.mk (show j < p by have := HK.out; omega)
        have hjb : decide ((j : Int) < (p : Int)) = true := decide_eq_true (by have := hjp.out; omega)
        have hjb' : decide (j < p) = true := decide_eq_true hjp.out
        have hx0 := HX.out
        have hz : ¬ (8 * (nb : Int)) = 0 := by omega
        obtain ⟨q, hq⟩ : ∃ q, Int.tmod x (8 * (nb : Int)) = q := ⟨_, rfl⟩
        have het : q = x % (8 * (nb : Int)) := hq.symm.trans (Int.tmod_eq_emod_of_nonneg hx0)
        have hq0 := Aside0.mk (show 0 ≤ q by rw [het]; exact Int.emod_nonneg _ hz)
        have hq1 := Aside0.mk (show q / 8 < nb by rw [het]; have := Int.emod_lt_of_pos x (show (0 : Int) < 8 * (nb : Int) by omega); omega)
        have hr := HRS.out
        simp only [bl_marks] at hr
        rw [← het] at hr
        clear HRS
        have het' := Aside0.mk het
        clear het
        have hw0 : 0 ≤ IntKind.u64.wrap (x + 1) := by rw [show IntKind.u64.wrap (x + 1) = (x + 1) % 18446744073709551616 from by simp [IntKind.wrap, IntKind.bits, IntKind.signed]]; omega
        have HW0 := Aside0.mk hw0
        clear hw0
        have HRS := Aside0.mk hr
        clear hr
        have hc0 := blk_cell B2.out 0
        have hc1 := blk_cell B2.out 1
        simp only [List.getElem?_toArray, List.getElem?_cons_zero, List.getElem?_cons_succ] at hc0 hc1
        go_wp2
        go_region_with (first | ((with_reducible refine (bl_spot ⟨g, 1, none⟩ nb cb p q _ hq0.out hq1.out hc h2).mono ?_); rintro e w8 ⟨rfl, hb⟩; have m0 := Aside0.mk (below_step (by repeat (first | (with_reducible first | exact HB.out | apply below_alloc | apply pw_below_drewN | apply below_drew1 | refine below_set ?_ hbg) | exact HB.out)) hb); have m1 := Aside0.mk (Kd.R_below (by (with_reducible repeat (first | apply Kd.R_alloc | apply Kd.R_drewN | apply Kd.R_drew)); exact HR.out) hb); have m2 := Aside0.mk (blk_below (g := g2) (o := .cells #[.slice (some ⟨g, 1, none⟩) nb cb, .int .i64 (p : Int)] 69 (0, 0)) (by (with_reducible repeat (first | refine blk_drewN ?_ _ | refine blk_drew ?_ | refine blk_alloc ?_ _)); exact B2.out) hb); have m3 := Aside0.mk (bl_kb_below (by (with_reducible repeat (first | apply bl_kb_alloc | apply bl_kb_drewN | apply bl_kb_drew)); exact KBF.out) hb); clear HB KBF HR B2 hb; have HB := m0; have KBF := m3; have HR := m1; have B2 := m2; clear m0 m1 m2 m3; dsimp only))
        clear hc0 hc1
        have hcel := Kd.R_celln (d := 0) HR.out (1 + q / 8) (by have := hq0.out; omega) (by have := hq1.out; omega)
        rw [show (1 + q / 8).toNat = 1 + (q / 8).toNat by have := hq0.out; omega] at hcel
        have hcell : _ = some (Value.int .u8 (rd xs (1 + q / 8))) := hcel.1
        have hfro := hcel.2
        clear hcel
        go_wp2
        go_roundg n
        case measure => omega
        case rel => exact ⟨_, j + 1, _, rfl, by rw [show wrap64 ((j : Int) + 1) = ((j + 1 : Nat) : Int) from by have := hjp.out; unfold wrap64; omega], HW0, ⟨by have := HK.out; omega⟩, HRS, ⟨by have h9 := Kd.R_putn HR.out (1 + q / 8) (Go.bits .or .u8 (rd xs (1 + q / 8)) (2 ^ (q % 8).toNat % 256)); have e9 : (1 + q / 8).toNat = 1 + (q / 8).toNat := (by have := hq0.out; omega); rw [e9] at h9; unfold bl_mark; rw [e9]; exact h9⟩, ⟨bl_kb_set KBF.out (by have h9 := (Kd.R_putg HR.out (1 + q / 8) (Go.bits .or .u8 (rd xs (1 + q / 8)) (2 ^ (q % 8).toNat % 256))).2.size; rw [show (1 + q / 8).toNat = 1 + (q / 8).toNat from (by have := hq0.out; omega)] at h9; exact h9)⟩, ⟨by refine blk_far ?_ (show g2 ≠ g by have := G2.out; omega) _; exact B2.out⟩, ⟨below_set (by repeat (first | (with_reducible first | exact HB.out | apply below_alloc | apply pw_below_drewN | apply below_drew1 | refine below_set ?_ hbg) | exact HB.out)) hbg⟩⟩
    
  · have c3b : decide (h / 8589934592 = 0) = false := decide_eq_false c3
    have c3c : (h / 8589934592 == 0) = false := by simpa using c3
    have HRS : Aside0 (bl_marks (8 * (nb : Int)) (h / 8589934592) p h xs0 = r) := ⟨by have q := HRS0.out; rw [show bl_step h = h / 8589934592 from if_neg c3] at q; exact q⟩
    clear HRS0
    go_enter Try.func53, Try.ntmps53
    go_wp2_with (first | ((with_reducible refine gate_dst (N := 3) rfl ?_); refine box_event ?hg (N := 3) ?hd (cs := #[.slice (some ⟨g, 1, none⟩) nb cb, .int .i64 (p : Int)]) (t := 69) ?hr ?_; (case hd => rfl); (case hg => rfl); (case hr => first | (go_simp; done) | (go_simp; rfl)); intro g2 hg w1 hbox hb; have m0 := Aside0.mk (below_step (by repeat (first | (with_reducible first | exact HB.out | apply below_alloc | apply pw_below_drewN | apply below_drew1 | refine below_set ?_ hbg) | exact HB.out)) hb); have m1 := Aside0.mk hbox; have m2 := Aside0.mk ((by rw [hg]; exact Nat.le_of_eq rfl : w.heap.size ≤ g2)); have m3 := Aside0.mk (Kd.R_below (by (with_reducible repeat (first | apply Kd.R_alloc | apply Kd.R_drewN | apply Kd.R_drew)); exact HR.out) hb); have m4 := Aside0.mk (bl_kb_below (by (with_reducible repeat (first | apply bl_kb_alloc | apply bl_kb_drewN | apply bl_kb_drew)); exact KBF.out) hb); clear HB KBF HR; have HB := m0; have KBF := m4; have B2 := m1; have G2 := m2; have HR := m3; clear m0 m1 m2 m3 m4; clear hb hbox hg) | ((with_reducible refine gate_callee (f := 43) rfl ?_); refine goesL_ (some 13) rfl rfl Try.func43 (by kernel_rfl) rfl #[.string key] rfl (by (try simp only [List.map_toArray, List.map_cons, List.map_nil]); first | done | rfl) ?_; (with_reducible refine (bloom_Hash.calls _ key h _ hh).mono ?_); rintro e w2 ⟨rfl, ⟨⟨nd, rfl⟩⟩⟩; refine ⟨_, rfl, ?_⟩; have hc0 := blk_cell B2.out 0; have hc1 := blk_cell B2.out 1; simp only [List.getElem?_toArray, List.getElem?_cons_zero, List.getElem?_cons_succ] at hc0 hc1))
    have hc0 := blk_cell B2.out 0
    have hc1 := blk_cell B2.out 1
    simp only [List.getElem?_toArray, List.getElem?_cons_zero, List.getElem?_cons_succ] at hc0 hc1
    go_loopg [7, 25] p (fun kq v7 v25 w' => ∃ (x : Int) (j : Nat) (xs : List Int), v7 = .int .u64 x ∧ v25 = .int .i64 (j : Int) ∧ Aside0 (0 ≤ x) ∧ Aside0 (kq + j = p) ∧ Aside0 (bl_marks (8 * (nb : Int)) (h / 8589934592) kq x xs = r) ∧ Aside0 ((Kd.int .u8).R 5 w' W0.heap.size ok (.slice (some ⟨g, 0, none⟩) (nb + 1) (cb + 1)) xs) ∧ Aside0 (bl_kb g w w') ∧ Aside0 (w'.heap[g2]? = some (.cells #[.slice (some ⟨g, 1, none⟩) nb cb, .int .i64 (p : Int)] 69 (0, 0))) ∧ Aside0 (Below W0.heap.size W0 w'))
    case atStart => exact ⟨h, 0, xs0, rfl, rfl, ⟨hh0⟩, ⟨rfl⟩, HRS, ⟨(by (with_reducible repeat (first | apply Kd.R_alloc | apply Kd.R_drewN | apply Kd.R_drew)); exact HR.out)⟩, ⟨(by (with_reducible repeat (first | apply bl_kb_alloc | apply bl_kb_drewN | apply bl_kb_drew)); exact KBF.out)⟩, ⟨(by (with_reducible repeat (first | refine blk_drewN ?_ _ | refine blk_drew ?_ | refine blk_alloc ?_ _)); exact B2.out)⟩, ⟨by repeat (first | (with_reducible first | exact HB.out | apply below_alloc | apply pw_below_drewN | apply below_drew1 | refine below_set ?_ hbg) | exact HB.out)⟩⟩
    case round =>
      clear HR KBF B2 HB HRS hc0 hc1
      obtain ⟨x, j, xs, rfl, rfl, HX, HK, HRS, HR, KBF, B2, HB⟩ := hrel
      cases gk with
      | zero =>
        have ej : j = p := by have := HK.out; omega
        subst ej
        have hr := HRS.out
        simp only [bl_marks] at hr
        subst hr
        go_wp2
        go_ret
        exact ⟨rfl, (by repeat (first | (with_reducible first | exact HB.out | apply below_alloc | apply pw_below_drewN | apply below_drew1 | refine below_set ?_ hbg) | exact HB.out)), (by (with_reducible repeat (first | apply bl_kb_alloc | apply bl_kb_drewN | apply bl_kb_drew)); exact KBF.out), (by (with_reducible repeat (first | apply Kd.R_alloc | apply Kd.R_drewN | apply Kd.R_drew)); exact HR.out)⟩
      | succ n =>
        have hjp := Aside0.mk (show j < p by have := HK.out; omega)
        have hjb : decide ((j : Int) < (p : Int)) = true := decide_eq_true (by have := hjp.out; omega)
        have hjb' : decide (j < p) = true := decide_eq_true hjp.out
        have hx0 := HX.out
        have hz : ¬ (8 * (nb : Int)) = 0 := by omega
        obtain ⟨q, hq⟩ : ∃ q, Int.tmod x (8 * (nb : Int)) = q := ⟨_, rfl⟩
        have het : q = x % (8 * (nb : Int)) := hq.symm.trans (Int.tmod_eq_emod_of_nonneg hx0)
        have hq0 := Aside0.mk (show 0 ≤ q by rw [het]; exact Int.emod_nonneg _ hz)
        have hq1 := Aside0.mk (show q / 8 < nb by rw [het]; have := Int.emod_lt_of_pos x (show (0 : Int) < 8 * (nb : Int) by omega); omega)
        have hr := HRS.out
        simp only [bl_marks] at hr
        rw [← het] at hr
        clear HRS
        have het' := Aside0.mk het
        clear het
        have hw0 : 0 ≤ IntKind.u64.wrap (x + (h / 8589934592)) := by rw [show IntKind.u64.wrap (x + (h / 8589934592)) = (x + (h / 8589934592)) % 18446744073709551616 from by simp [IntKind.wrap, IntKind.bits, IntKind.signed]]; omega
        have HW0 := Aside0.mk hw0
        clear hw0
        have HRS := Aside0.mk hr
        clear hr
        have hc0 := blk_cell B2.out 0
        have hc1 := blk_cell B2.out 1
        simp only [List.getElem?_toArray, List.getElem?_cons_zero, List.getElem?_cons_succ] at hc0 hc1
        go_wp2
        go_region_with (first | ((with_reducible refine (bl_spot ⟨g, 1, none⟩ nb cb p q _ hq0.out hq1.out hc h2).mono ?_); rintro e w8 ⟨rfl, hb⟩; have m0 := Aside0.mk (below_step (by repeat (first | (with_reducible first | exact HB.out | apply below_alloc | apply pw_below_drewN | apply below_drew1 | refine below_set ?_ hbg) | exact HB.out)) hb); have m1 := Aside0.mk (Kd.R_below (by (with_reducible repeat (first | apply Kd.R_alloc | apply Kd.R_drewN | apply Kd.R_drew)); exact HR.out) hb); have m2 := Aside0.mk (blk_below (g := g2) (o := .cells #[.slice (some ⟨g, 1, none⟩) nb cb, .int .i64 (p : Int)] 69 (0, 0)) (by (with_reducible repeat (first | refine blk_drewN ?_ _ | refine blk_drew ?_ | refine blk_alloc ?_ _)); exact B2.out) hb); have m3 := Aside0.mk (bl_kb_below (by (with_reducible repeat (first | apply bl_kb_alloc | apply bl_kb_drewN | apply bl_kb_drew)); exact KBF.out) hb); clear HB KBF HR B2 hb; have HB := m0; have KBF := m3; have HR := m1; have B2 := m2; clear m0 m1 m2 m3; dsimp only))
        clear hc0 hc1
        have hcel := Kd.R_celln (d := 0) HR.out (1 + q / 8) (by have := hq0.out; omega) (by have := hq1.out; omega)
        rw [show (1 + q / 8).toNat = 1 + (q / 8).toNat by have := hq0.out; omega] at hcel
        have hcell : _ = some (Value.int .u8 (rd xs (1 + q / 8))) := hcel.1
        have hfro := hcel.2
        clear hcel
        go_wp2
        go_roundg n
        case measure => omega
        case rel => exact ⟨_, j + 1, _, rfl, by rw [show wrap64 ((j : Int) + 1) = ((j + 1 : Nat) : Int) from by have := hjp.out; unfold wrap64; omega], HW0, ⟨by have := HK.out; omega⟩, HRS, ⟨by have h9 := Kd.R_putn HR.out (1 + q / 8) (Go.bits .or .u8 (rd xs (1 + q / 8)) (2 ^ (q % 8).toNat % 256)); have e9 : (1 + q / 8).toNat = 1 + (q / 8).toNat := (by have := hq0.out; omega); rw [e9] at h9; unfold bl_mark; rw [e9]; exact h9⟩, ⟨bl_kb_set KBF.out (by have h9 := (Kd.R_putg HR.out (1 + q / 8) (Go.bits .or .u8 (rd xs (1 + q / 8)) (2 ^ (q % 8).toNat % 256))).2.size; rw [show (1 + q / 8).toNat = 1 + (q / 8).toNat from (by have := hq0.out; omega)] at h9; exact h9)⟩, ⟨by refine blk_far ?_ (show g2 ≠ g by have := G2.out; omega) _; exact B2.out⟩, ⟨below_set (by repeat (first | (with_reducible first | exact HB.out | apply below_alloc | apply pw_below_drewN | apply below_drew1 | refine below_set ?_ hbg) | exact HB.out)) hbg⟩⟩
    
theorem bl_eachHas' (A : Addr) (l : List Int) (n c : Nat) (P : Int) (key : ByteArray) (h : Int) (w : World) (hC : Kd.C (Kd.int .u8) w (some A) l.length l) (hn : n = l.length) (hc : n ≤ c) (h1 : 8 ≤ n) (h2 : n ≤ 8192) (hp0 : 0 ≤ P) (hp : P ≤ 16) (hh : bloom_Hash.f (key.size + 1) key = some h) (hh0 : 0 ≤ h) :
    Calls Try.prog 53 #[.agg #[.slice (some A) n c, .int .i64 P], .string key, .func (.func 57) #[] #[]] w fun e w' => e = .returned (.bool (bl_has (8 * (n : Int)) (bl_step h) l P.toNat h)) ∧ Below w.heap.size w w' := by
  subst hn
  have q := bl_eachHas A l c P.toNat key h w hC hc h1 h2 (by omega) hh hh0 _ rfl
  rw [show ((P.toNat : Nat) : Int) = P by omega] at q
  exact q
theorem bl_eachMake' (g nb cb : Nat) (ok : Nat → Prop) (xs0 : List Int) (P : Int) (key : ByteArray) (h : Int) (W0 w : World) (hB : Below W0.heap.size W0 w) (hR : (Kd.int .u8).R 5 w W0.heap.size ok (.slice (some ⟨g, 0, none⟩) (nb + 1) (cb + 1)) xs0) (hbg : W0.heap.size ≤ g) (hgw : g < w.heap.size) (hc : nb ≤ cb) (h1 : 8 ≤ nb) (h2 : nb ≤ 8192) (hp0 : 0 ≤ P) (hp : P ≤ 16) (hh : bloom_Hash.f (key.size + 1) key = some h) (hh0 : 0 ≤ h) :
    Calls Try.prog 53 #[.agg #[.slice (some ⟨g, 1, none⟩) nb cb, .int .i64 P], .string key, .func (.func 54) #[] #[]] w fun e w' => e = .returned (.bool true) ∧ Below W0.heap.size W0 w' ∧ bl_kb g w w' ∧ (Kd.int .u8).R 5 w' W0.heap.size ok (.slice (some ⟨g, 0, none⟩) (nb + 1) (cb + 1)) (bl_marks (8 * (nb : Int)) (bl_step h) P.toNat h xs0) := by
  have q := bl_eachMake g nb cb ok xs0 P.toNat key h W0 w hB hR hbg hgw hc h1 h2 (by omega) hh hh0 _ rfl
  rw [show ((P.toNat : Nat) : Int) = P by omega] at q
  exact q

/-! ### bloom_Make: function 41 -/
-- BY HAND

def bl_nb (n : Nat) (b : Int) : Nat := (mx 64 (((n : Int) * b + 7) / 8 * 8) / 8).toNat
def bl_pr (b : Int) : Int := mx 1 (b * 7 / 10)
def bl_keys (m p : Int) : List ByteArray → List Int → Option (List Int)
  | [], xs => some xs
  | k :: ks, xs => (bloom_Hash.f (k.size + 1) k).bind fun h => (if 0 ≤ h then bl_keys m p ks (bl_marks m (bl_step h) p.toNat h xs) else none)
def bloom_Make.f (l0 : List ByteArray) (a1 : Int) : Option (List Int × Int) :=
  if a1 < 1 then some ([], 110) else if 16 < a1 then some ([], 110) else if 4096 < (l0.length : Int) then some ([], 3) else
  (bl_keys (8 * (bl_nb l0.length a1 : Int)) (bl_pr a1) l0 ((List.replicate (bl_nb l0.length a1 + 1) 0).set 0 (bl_pr a1))).bind fun r => some (r, 0)
set_option maxHeartbeats 8000000 in
set_option maxRecDepth 100000 in
theorem bloom_Make.calls (A0 : Option Addr) (c0 : Nat) (l0 : List ByteArray) (a1 : Int) (r1 : List Int) (r2 : Int) (w : World) (hr0 : Kd.C Kd.string w A0 l0.length l0) (hc0 : l0.length ≤ c0) (h : bloom_Make.f l0 a1 = some (r1, r2)) :
    Calls Try.prog 41 #[.slice A0 l0.length c0, .int .i64 a1] w fun e w' => ∃ v0_ : Value, e = .returned (.tuple #[v0_, .int .i64 r2]) ∧ Kd.R (Kd.int .u8) 5 w' w.heap.size (fun _ => True) v0_ r1 ∧ Below w.heap.size w w' := by
  have hu69 := Try.underlying69
  have HC := Aside0.mk hr0
  clear hr0
  have HB := Aside0.mk (Below.refl w.heap.size w)
  unfold bloom_Make.f at h
  by_cases c1 : a1 < 1
  · rw [if_pos c1] at h
    simp only [Option.some.injEq, Prod.mk.injEq] at h
    obtain ⟨rfl, rfl⟩ := h
    have d1 : decide (a1 < 1) = true := decide_eq_true c1
    go_enter Try.func41, Try.ntmps41
    go_wp2
    go_ret2
    exact ⟨_, rfl, Kd.R_nil _ _ _ _ _, by repeat (first | (with_reducible first | exact HB.out | apply below_alloc | apply pw_below_drewN | apply below_drew1) | exact HB.out)⟩
  rw [if_neg c1] at h
  have d1 : decide (a1 < 1) = false := decide_eq_false c1
  by_cases c2 : 16 < a1
  · rw [if_pos c2] at h
    simp only [Option.some.injEq, Prod.mk.injEq] at h
    obtain ⟨rfl, rfl⟩ := h
    have d2 : decide (16 < a1) = true := decide_eq_true c2
    go_enter Try.func41, Try.ntmps41
    go_wp2
    go_ret2
    exact ⟨_, rfl, Kd.R_nil _ _ _ _ _, by repeat (first | (with_reducible first | exact HB.out | apply below_alloc | apply pw_below_drewN | apply below_drew1) | exact HB.out)⟩
  rw [if_neg c2] at h
  have d2 : decide (16 < a1) = false := decide_eq_false c2
  by_cases c3 : 4096 < (l0.length : Int)
  · rw [if_pos c3] at h
    simp only [Option.some.injEq, Prod.mk.injEq] at h
    obtain ⟨rfl, rfl⟩ := h
    have d3 : decide (4096 < (l0.length : Int)) = true := decide_eq_true c3
    have d3' : decide (4096 < l0.length) = true := decide_eq_true (by omega)
    go_enter Try.func41, Try.ntmps41
    go_wp2
    go_ret2
    exact ⟨_, rfl, Kd.R_nil _ _ _ _ _, by repeat (first | (with_reducible first | exact HB.out | apply below_alloc | apply pw_below_drewN | apply below_drew1) | exact HB.out)⟩
  rw [if_neg c3] at h
  have d3 : decide (4096 < (l0.length : Int)) = false := decide_eq_false c3
  have d3' : decide (4096 < l0.length) = false := decide_eq_false (by omega)
  obtain ⟨rr, H, h⟩ := Option.bind_eq_some_iff.mp h
  simp only [Option.some.injEq, Prod.mk.injEq] at h
  obtain ⟨rfl, rfl⟩ := h
  have hp0 : 0 ≤ (l0.length : Int) * a1 := Int.mul_nonneg (by omega) (by omega)
  have hp1 : (l0.length : Int) * a1 ≤ 65536 := Int.le_trans (Int.mul_le_mul (show (l0.length : Int) ≤ 4096 by omega) (show a1 ≤ 16 by omega) (by omega) (by omega)) (by decide)
  obtain ⟨nb, hnb⟩ : ∃ nb : Nat, bl_nb l0.length a1 = nb := ⟨_, rfl⟩
  have hm : mx 64 (((l0.length : Int) * a1 + 7) / 8 * 8) = 8 * (nb : Int) := by
    rw [← hnb]
    unfold bl_nb mx
    split <;> omega
  have hm' : (if 64 < ((l0.length : Int) * a1 + 7) / 8 * 8 then ((l0.length : Int) * a1 + 7) / 8 * 8 else 64) = 8 * (nb : Int) := hm
  have hnb1 : 8 ≤ nb := by
    rw [← hnb]
    unfold bl_nb mx
    split <;> omega
  have hnb2 : nb ≤ 8192 := by
    rw [← hnb]
    unfold bl_nb mx
    split <;> omega
  rw [hnb] at H
  obtain ⟨P, hP⟩ : ∃ P, bl_pr a1 = P := ⟨_, rfl⟩
  have hP' : mx 1 (a1 * 7 / 10) = P := hP
  have hP'' : (if 1 < a1 * 7 / 10 then a1 * 7 / 10 else 1) = P := hP
  have hP1 : 1 ≤ P := by
    rw [← hP]
    unfold bl_pr mx
    split <;> omega
  have hP2 : P ≤ 11 := by
    rw [← hP]
    unfold bl_pr mx
    split <;> omega
  rw [hP] at H
  clear hnb hP
  go_enter Try.func41, Try.ntmps41
  go_wp2_with (first | ((with_reducible refine gate_dst (N := 31) rfl ?_); refine Kd.R_make (Kd.int .u8) _ 5 rfl (N := 31) rfl 32 _ _ rfl (1 + (nb : Int)) rfl rfl Try.underlying32 (.int .u8 0) 1 info5 rfl (by decide) (by omega) 0 (ok := fun _ => True) (okp := fun _ => True) rfl (fun _ hk => hk) trivial (by omega) (Nat.le_trans (Nat.mul_le_mul_right _ (show (1 + (nb : Int)).toNat ≤ 281474976710656 by omega)) (by omega)) (Below.refl _ _) (Nat.le_refl _) ?_; intro v1 w1 ho hb hg_ hnew_; clear hg_ hnew_; rw [show (1 + (nb : Int)).toNat = nb + 1 by omega] at ho; obtain ⟨g, cap, eform, hbg, hgl, hcells⟩ := Kd.R_form ho (by rw [List.length_replicate]; omega); subst eform; clear hcells; simp only [List.length_replicate] at ho ⊢; obtain ⟨cb, rfl⟩ : ∃ cb, cap = cb + 1 := ⟨cap - 1, by have := (Kd.R_reads' ho).2.1; omega⟩; have hcb : nb ≤ cb := (by have := (Kd.R_reads' ho).2.1; omega); have m0 := Aside0.mk (below_step HB.out hb); have m1 := Aside0.mk ho; have m2 := Aside0.mk hbg; have m3 := Aside0.mk hgl; have hx := (Kd.R_celln 0 ho 0 (by decide) (by omega)).1; have hf := (Kd.R_celln 0 ho 0 (by decide) (by omega)).2; (simp only [Int.toNat_zero, Int.reduceToNat] at hx hf); clear HB ho hb hbg hgl; have HB := m0; have HR := m1; have HBG := m2; have HGL := m3; clear m0 m1 m2 m3))
  clear hx hf
  have hR2 := Kd.R_putn HR.out 0 P
  have hB2 := below_set (j := 0) (v := .int .u8 P) HB.out HBG.out
  have hL2 : g < (w1.setCell ⟨g, 0, none⟩ (.int .u8 P)).heap.size := Nat.lt_of_lt_of_le HGL.out (Kd.R_putg HR.out 0 P).2.size
  clear HR HB HGL
  simp only [Int.toNat_zero] at hR2
  have hR2' : (Kd.int .u8).R 5 (w1.setCell ⟨g, 0, none⟩ (.int .u8 P)) w.heap.size (fun _ => True) (.slice (some ⟨g, 0, none⟩) (nb + 1) (cb + 1)) ((List.replicate (nb + 1) 0).set 0 P) := hR2
  clear hR2
  generalize hw2 : w1.setCell ⟨g, 0, none⟩ (.int .u8 P) = w2 at hR2' hB2 hL2 ⊢
  have HR := Aside0.mk hR2'
  have HB := Aside0.mk hB2
  clear hR2' hB2 hw2
  have hx := (Kd.R_celln 0 HR.out 0 (by decide) (by omega)).1
  have hx' : w2.cell? ⟨g, 0, none⟩ = some (.int .u8 P) := hx
  clear hx
  go_region
  have hL3 : g < ((w2.alloc (.cells #[.slice (some ⟨g, 1, none⟩) nb cb, .int .i64 P] 69 (0, 0))).drew).heap.size := Nat.lt_of_lt_of_le hL2 (below_drew (below_alloc (Below.refl w2.heap.size w2) _)).size
  have hG8 : w2.heap.size ≠ g := by omega
  have hbox : ((w2.alloc (.cells #[.slice (some ⟨g, 1, none⟩) nb cb, .int .i64 P] 69 (0, 0))).drew).heap[w2.heap.size]? = some (.cells #[.slice (some ⟨g, 1, none⟩) nb cb, .int .i64 P] 69 (0, 0)) := blk_drew (show (w2.heap.push _)[w2.heap.size]? = _ from Array.getElem?_push_size)
  have hR3 := Kd.R_drew (Kd.R_alloc HR.out (.cells #[.slice (some ⟨g, 1, none⟩) nb cb, .int .i64 P] 69 (0, 0)))
  have hB3 := below_drew (below_alloc HB.out (.cells #[.slice (some ⟨g, 1, none⟩) nb cb, .int .i64 P] 69 (0, 0)))
  clear HR HB hx'
  generalize (w2.alloc (.cells #[.slice (some ⟨g, 1, none⟩) nb cb, .int .i64 P] 69 (0, 0))).drew = w3 at hL3 hbox hR3 hB3 ⊢
  clear hL2
  generalize w2.heap.size = g8 at hG8 hbox ⊢
  have HR := Aside0.mk hR3
  have HB := Aside0.mk hB3
  have HL := Aside0.mk hL3
  have B8 := Aside0.mk hbox
  have HH := Aside0.mk H
  clear hR3 hB3 hL3 hbox H
  go_wp2
  go_loopg [48] l0.length (fun kq v48 w' => ∃ (j : Nat) (xs : List Int), v48 = .int .i64 (j : Int) ∧ Aside0 (kq + j = l0.length) ∧ Aside0 (bl_keys (8 * (nb : Int)) P (l0.drop j) xs = some rr) ∧ Aside0 ((Kd.int .u8).R 5 w' w.heap.size (fun _ => True) (.slice (some ⟨g, 0, none⟩) (nb + 1) (cb + 1)) xs) ∧ Aside0 (w'.heap[g8]? = some (.cells #[.slice (some ⟨g, 1, none⟩) nb cb, .int .i64 P] 69 (0, 0))) ∧ Aside0 (g < w'.heap.size) ∧ Aside0 (Below w.heap.size w w'))
  case atStart => exact ⟨0, _, rfl, ⟨rfl⟩, HH, HR, B8, HL, HB⟩
  case round =>
    clear HR HB HL B8 HH
    obtain ⟨j, xs, rfl, HK, HH, HR, B8, HL, HB⟩ := hrel
    cases gk with
    | zero =>
      have ej : j = l0.length := by have := HK.out; omega
      subst ej
      have hr := HH.out
      rw [List.drop_length] at hr
      obtain rfl := Option.some.inj hr
      clear hr HH
      go_wp2
      go_ret2
      exact ⟨_, rfl, HR.out, HB.out⟩
    | succ n =>
      have hj : j < l0.length := by have := HK.out; omega
      have hjb : decide ((j : Int) < (l0.length : Int)) = true := decide_eq_true (by omega)
      have hjb' : decide (j < l0.length) = true := decide_eq_true hj
      have hr := HH.out
      rw [List.drop_eq_getElem_cons hj] at hr
      obtain ⟨hh, ehh, hr⟩ := Option.bind_eq_some_iff.mp hr
      by_cases hz : 0 ≤ hh
      · rw [if_pos hz] at hr
        have EHH := Aside0.mk ehh
        have HZ := Aside0.mk hz
        have HH2 := Aside0.mk hr
        clear ehh hz hr HH
        obtain ⟨ad_, ea_, hcell⟩ := (Kd.reads_of_C (d := ByteArray.empty) (Kd.C_below HC.out HB.out)).at_ (j : Int) (by omega) (by omega)
        subst ea_
        rw [show rdOf ByteArray.empty l0 (j : Int) = l0[j] by simp [rdOf, List.getD_eq_getElem?_getD, hj]] at hcell
        generalize l0[j] = key at hcell EHH
        rw [Int.toNat_natCast] at hcell
        have hcell' : _ = some (Value.string key) := hcell
        clear hcell
        have hc0' := blk_cell B8.out 0
        have hc1' := blk_cell B8.out 1
        simp only [List.getElem?_toArray, List.getElem?_cons_zero, List.getElem?_cons_succ] at hc0' hc1'
        go_wp2_with (first | ((with_reducible refine gate_callee (f := 53) rfl ?_); refine goesL_ (some 54) rfl rfl Try.func53 (by kernel_rfl) rfl #[.agg #[.slice (some ⟨g, 1, none⟩) nb cb, .int .i64 P], .string key, .func (.func 54) #[] #[]] rfl (by (try simp only [List.map_toArray, List.map_cons, List.map_nil]); first | done | rfl) ?_; (refine (bl_eachMake' g nb cb (fun _ => True) xs P key hh w _ HB.out HR.out HBG.out HL.out hcb hnb1 hnb2 (by omega) (by omega) EHH.out HZ.out).mono ?_); rintro e w5 ⟨rfl, hb, hk, hr5⟩; refine ⟨_, rfl, ?_⟩; have m0 := Aside0.mk hb; have m1 := Aside0.mk hr5; have m2 := Aside0.mk ((hk.2 g8 (blk_lt B8.out) hG8).trans B8.out); have m3 := Aside0.mk (Nat.lt_of_lt_of_le HL.out hk.1); clear HB HR B8 HL hb hk hr5; have HB := m0; have HR := m1; have B8 := m2; have HL := m3; clear m0 m1 m2 m3))
        go_roundg n
        case measure => omega
        case rel => exact ⟨j + 1, _, by first | rfl | (rw [Int.natCast_add]; rfl), ⟨by have := HK.out; omega⟩, HH2, HR, B8, HL, HB⟩
      · rw [if_neg hz] at hr
        cases hr

/-! ### ours: bl_of -/

set_option maxHeartbeats 8000000 in
set_option maxRecDepth 100000 in
theorem bl_of1 (A : Option Addr) (l : List Int) (c : Nat) (w : World) (hC : Kd.C (Kd.int .u8) w A l.length l) (hc : l.length ≤ c) (h : l.length < 9) :
    Calls Try.prog 56 #[.slice A l.length c] w fun e w' => e = .returned (.tuple #[.agg #[.slice none 0 0, .int .i64 0], .int .i64 110]) ∧ Below w.heap.size w w' := by
  have hu69 := Try.underlying69
  have HC := Aside0.mk hC
  clear hC
  have HB := Aside0.mk (Below.refl w.heap.size w)
  have d1 : decide ((l.length : Int) < 9) = true := decide_eq_true (by omega)
  have d2 : decide (l.length < 9) = true := decide_eq_true (by omega)

  go_enter Try.func56, Try.ntmps56
  go_wp2_with (first | ((with_reducible refine gate_dst (N := 2) rfl ?_); (try (refine gate_guard (by rfl) ?_; dsimp only)); refine box_event ?hg (N := 2) ?hd (cs := #[.slice none 0 0, .int .i64 0]) (t := 69) ?hr ?_; (case hd => rfl); (case hg => rfl); (case hr => first | (go_simp; done) | (go_simp; rfl)); intro g2 hg w1 hbox hb; have m0 := Aside0.mk (below_step (by repeat (first | (with_reducible first | exact HB.out | apply below_alloc | apply pw_below_drewN | apply below_drew1) | exact HB.out)) hb); have m1 := Aside0.mk hbox; have m2 := Aside0.mk ((by rw [hg]; exact (below_size (by repeat (first | (with_reducible first | exact HB.out | apply below_alloc | apply pw_below_drewN | apply below_drew1) | exact HB.out))) : w.heap.size ≤ g2)); have m3 := Aside0.mk (Kd.C_below (by (with_reducible repeat (first | apply Kd.C_alloc | apply Kd.C_drewN | apply Kd.C_drew)); exact HC.out) hb); clear HB HC; have HB := m0; have B2 := m1; have G2 := m2; have HC := m3; clear m0 m1 m2 m3; clear hb hbox hg; have hc0 := blk_cell B2.out 0; have hc1 := blk_cell B2.out 1; have hf0 := blk_frozen B2.out 0; have hf1 := blk_frozen B2.out 1; simp only [List.getElem?_toArray, List.getElem?_cons_zero, List.getElem?_cons_succ] at hc0 hc1; skip))
  skip
  refine bodyPost_ret (results_ct rfl _ _ g2 69 #[.slice none 0 0, .int .i64 0] (0, 0) _ rfl (by (with_reducible repeat (first | refine blk_drewN ?_ _ | refine blk_drew ?_ | refine blk_alloc ?_ _)); refine blk_put (cs := #[.slice none 0 0, .int .i64 0]) ?_ 1 _ rfl; (with_reducible repeat (first | refine blk_drewN ?_ _ | refine blk_drew ?_ | refine blk_alloc ?_ _)); refine blk_put (cs := #[.slice none 0 0, .int .i64 0]) ?_ 0 _ rfl; (with_reducible repeat (first | refine blk_drewN ?_ _ | refine blk_drew ?_ | refine blk_alloc ?_ _)); exact B2.out) Try.underlying69 rfl (by kernel_rfl)) rfl ?_
  exact ⟨by first | rfl | (simp <;> rfl), by repeat (first | (with_reducible first | exact HB.out | apply below_alloc | apply pw_below_drewN | apply below_drew1 | refine below_set ?_ G2.out) | exact HB.out)⟩

set_option maxHeartbeats 8000000 in
set_option maxRecDepth 100000 in
theorem bl_of2 (A : Option Addr) (l : List Int) (c : Nat) (w : World) (hC : Kd.C (Kd.int .u8) w A l.length l) (hc : l.length ≤ c) (h : 8193 < l.length) :
    Calls Try.prog 56 #[.slice A l.length c] w fun e w' => e = .returned (.tuple #[.agg #[.slice none 0 0, .int .i64 0], .int .i64 110]) ∧ Below w.heap.size w w' := by
  have hu69 := Try.underlying69
  have HC := Aside0.mk hC
  clear hC
  have HB := Aside0.mk (Below.refl w.heap.size w)
  have d1 : decide ((l.length : Int) < 9) = false := decide_eq_false (by omega)
  have d2 : decide (l.length < 9) = false := decide_eq_false (by omega)
  have d3 : decide ((l.length : Int) > 8193) = true := decide_eq_true (by omega)
  have d4 : decide (l.length > 8193) = true := decide_eq_true (by omega)
  have d3' : decide (8193 < (l.length : Int)) = true := decide_eq_true (by omega)
  have d4' : decide (8193 < l.length) = true := decide_eq_true (by omega)

  go_enter Try.func56, Try.ntmps56
  go_wp2_with (first | ((with_reducible refine gate_dst (N := 2) rfl ?_); (try (refine gate_guard (by rfl) ?_; dsimp only)); refine box_event ?hg (N := 2) ?hd (cs := #[.slice none 0 0, .int .i64 0]) (t := 69) ?hr ?_; (case hd => rfl); (case hg => rfl); (case hr => first | (go_simp; done) | (go_simp; rfl)); intro g2 hg w1 hbox hb; have m0 := Aside0.mk (below_step (by repeat (first | (with_reducible first | exact HB.out | apply below_alloc | apply pw_below_drewN | apply below_drew1) | exact HB.out)) hb); have m1 := Aside0.mk hbox; have m2 := Aside0.mk ((by rw [hg]; exact (below_size (by repeat (first | (with_reducible first | exact HB.out | apply below_alloc | apply pw_below_drewN | apply below_drew1) | exact HB.out))) : w.heap.size ≤ g2)); have m3 := Aside0.mk (Kd.C_below (by (with_reducible repeat (first | apply Kd.C_alloc | apply Kd.C_drewN | apply Kd.C_drew)); exact HC.out) hb); clear HB HC; have HB := m0; have B2 := m1; have G2 := m2; have HC := m3; clear m0 m1 m2 m3; clear hb hbox hg; have hc0 := blk_cell B2.out 0; have hc1 := blk_cell B2.out 1; have hf0 := blk_frozen B2.out 0; have hf1 := blk_frozen B2.out 1; simp only [List.getElem?_toArray, List.getElem?_cons_zero, List.getElem?_cons_succ] at hc0 hc1; skip))
  skip
  refine bodyPost_ret (results_ct rfl _ _ g2 69 #[.slice none 0 0, .int .i64 0] (0, 0) _ rfl (by (with_reducible repeat (first | refine blk_drewN ?_ _ | refine blk_drew ?_ | refine blk_alloc ?_ _)); refine blk_put (cs := #[.slice none 0 0, .int .i64 0]) ?_ 1 _ rfl; (with_reducible repeat (first | refine blk_drewN ?_ _ | refine blk_drew ?_ | refine blk_alloc ?_ _)); refine blk_put (cs := #[.slice none 0 0, .int .i64 0]) ?_ 0 _ rfl; (with_reducible repeat (first | refine blk_drewN ?_ _ | refine blk_drew ?_ | refine blk_alloc ?_ _)); exact B2.out) Try.underlying69 rfl (by kernel_rfl)) rfl ?_
  exact ⟨by first | rfl | (simp <;> rfl), by repeat (first | (with_reducible first | exact HB.out | apply below_alloc | apply pw_below_drewN | apply below_drew1 | refine below_set ?_ G2.out) | exact HB.out)⟩

set_option maxHeartbeats 8000000 in
set_option maxRecDepth 100000 in
theorem bl_of3 (A : Addr) (l : List Int) (c : Nat) (w : World) (hC : Kd.C (Kd.int .u8) w (some A) l.length l) (hc : l.length ≤ c) (h1 : 9 ≤ l.length) (h2 : l.length ≤ 8193) (h : rd l 0 < 1) :
    Calls Try.prog 56 #[.slice (some A) l.length c] w fun e w' => e = .returned (.tuple #[.agg #[.slice none 0 0, .int .i64 0], .int .i64 110]) ∧ Below w.heap.size w w' := by
  have hu69 := Try.underlying69
  have HC := Aside0.mk hC
  clear hC
  have HB := Aside0.mk (Below.refl w.heap.size w)
  have d1 : decide ((l.length : Int) < 9) = false := decide_eq_false (by omega)
  have d2 : decide (l.length < 9) = false := decide_eq_false (by omega)
  have d3 : decide ((l.length : Int) > 8193) = false := decide_eq_false (by omega)
  have d4 : decide (l.length > 8193) = false := decide_eq_false (by omega)
  have d3' : decide (8193 < (l.length : Int)) = false := decide_eq_false (by omega)
  have d4' : decide (8193 < l.length) = false := decide_eq_false (by omega)
  have z1 : decide (0 < (l.length : Int)) = true := decide_eq_true (by omega)
  have z2 : decide (0 < l.length) = true := decide_eq_true (by omega)
  have d5 : decide (rd l 0 < 1) = true := decide_eq_true (by omega)

  go_enter Try.func56, Try.ntmps56
  go_wp2_with (first | ((with_reducible refine gate_dst (N := 2) rfl ?_); (try (refine gate_guard (by rfl) ?_; dsimp only)); refine box_event ?hg (N := 2) ?hd (cs := #[.slice none 0 0, .int .i64 0]) (t := 69) ?hr ?_; (case hd => rfl); (case hg => rfl); (case hr => first | (go_simp; done) | (go_simp; rfl)); intro g2 hg w1 hbox hb; have m0 := Aside0.mk (below_step (by repeat (first | (with_reducible first | exact HB.out | apply below_alloc | apply pw_below_drewN | apply below_drew1) | exact HB.out)) hb); have m1 := Aside0.mk hbox; have m2 := Aside0.mk ((by rw [hg]; exact (below_size (by repeat (first | (with_reducible first | exact HB.out | apply below_alloc | apply pw_below_drewN | apply below_drew1) | exact HB.out))) : w.heap.size ≤ g2)); have m3 := Aside0.mk (Kd.C_below (by (with_reducible repeat (first | apply Kd.C_alloc | apply Kd.C_drewN | apply Kd.C_drew)); exact HC.out) hb); clear HB HC; have HB := m0; have B2 := m1; have G2 := m2; have HC := m3; clear m0 m1 m2 m3; clear hb hbox hg; have hc0 := blk_cell B2.out 0; have hc1 := blk_cell B2.out 1; have hf0 := blk_frozen B2.out 0; have hf1 := blk_frozen B2.out 1; simp only [List.getElem?_toArray, List.getElem?_cons_zero, List.getElem?_cons_succ] at hc0 hc1; obtain ⟨ad_, ea_, hcell_⟩ := (Kd.reads_of_C (d := 0) HC.out).at_ 0 (by decide) (by omega); obtain rfl := Option.some.inj ea_; clear ea_; have hcell : _ = some (Value.int .u8 (rd l 0)) := hcell_; clear hcell_; rw [show A.add (Int.toNat 0) = A from by cases A; first | rfl | simp [Addr.add]] at hcell))
  skip
  refine bodyPost_ret (results_ct rfl _ _ g2 69 #[.slice none 0 0, .int .i64 0] (0, 0) _ rfl (by (with_reducible repeat (first | refine blk_drewN ?_ _ | refine blk_drew ?_ | refine blk_alloc ?_ _)); refine blk_put (cs := #[.slice none 0 0, .int .i64 0]) ?_ 1 _ rfl; (with_reducible repeat (first | refine blk_drewN ?_ _ | refine blk_drew ?_ | refine blk_alloc ?_ _)); refine blk_put (cs := #[.slice none 0 0, .int .i64 0]) ?_ 0 _ rfl; (with_reducible repeat (first | refine blk_drewN ?_ _ | refine blk_drew ?_ | refine blk_alloc ?_ _)); exact B2.out) Try.underlying69 rfl (by kernel_rfl)) rfl ?_
  exact ⟨by first | rfl | (simp <;> rfl), by repeat (first | (with_reducible first | exact HB.out | apply below_alloc | apply pw_below_drewN | apply below_drew1 | refine below_set ?_ G2.out) | exact HB.out)⟩

set_option maxHeartbeats 8000000 in
set_option maxRecDepth 100000 in
theorem bl_of4 (A : Addr) (l : List Int) (c : Nat) (w : World) (hC : Kd.C (Kd.int .u8) w (some A) l.length l) (hc : l.length ≤ c) (h1 : 9 ≤ l.length) (h2 : l.length ≤ 8193) (h : 16 < rd l 0) :
    Calls Try.prog 56 #[.slice (some A) l.length c] w fun e w' => e = .returned (.tuple #[.agg #[.slice none 0 0, .int .i64 0], .int .i64 110]) ∧ Below w.heap.size w w' := by
  have hu69 := Try.underlying69
  have HC := Aside0.mk hC
  clear hC
  have HB := Aside0.mk (Below.refl w.heap.size w)
  have d1 : decide ((l.length : Int) < 9) = false := decide_eq_false (by omega)
  have d2 : decide (l.length < 9) = false := decide_eq_false (by omega)
  have d3 : decide ((l.length : Int) > 8193) = false := decide_eq_false (by omega)
  have d4 : decide (l.length > 8193) = false := decide_eq_false (by omega)
  have d3' : decide (8193 < (l.length : Int)) = false := decide_eq_false (by omega)
  have d4' : decide (8193 < l.length) = false := decide_eq_false (by omega)
  have z1 : decide (0 < (l.length : Int)) = true := decide_eq_true (by omega)
  have z2 : decide (0 < l.length) = true := decide_eq_true (by omega)
  have d5 : decide (rd l 0 < 1) = false := decide_eq_false (by omega)
  have d6 : decide (rd l 0 > 16) = true := decide_eq_true (by omega)
  have d6' : decide (16 < rd l 0) = true := decide_eq_true (by omega)

  go_enter Try.func56, Try.ntmps56
  go_wp2_with (first | ((with_reducible refine gate_dst (N := 2) rfl ?_); (try (refine gate_guard (by rfl) ?_; dsimp only)); refine box_event ?hg (N := 2) ?hd (cs := #[.slice none 0 0, .int .i64 0]) (t := 69) ?hr ?_; (case hd => rfl); (case hg => rfl); (case hr => first | (go_simp; done) | (go_simp; rfl)); intro g2 hg w1 hbox hb; have m0 := Aside0.mk (below_step (by repeat (first | (with_reducible first | exact HB.out | apply below_alloc | apply pw_below_drewN | apply below_drew1) | exact HB.out)) hb); have m1 := Aside0.mk hbox; have m2 := Aside0.mk ((by rw [hg]; exact (below_size (by repeat (first | (with_reducible first | exact HB.out | apply below_alloc | apply pw_below_drewN | apply below_drew1) | exact HB.out))) : w.heap.size ≤ g2)); have m3 := Aside0.mk (Kd.C_below (by (with_reducible repeat (first | apply Kd.C_alloc | apply Kd.C_drewN | apply Kd.C_drew)); exact HC.out) hb); clear HB HC; have HB := m0; have B2 := m1; have G2 := m2; have HC := m3; clear m0 m1 m2 m3; clear hb hbox hg; have hc0 := blk_cell B2.out 0; have hc1 := blk_cell B2.out 1; have hf0 := blk_frozen B2.out 0; have hf1 := blk_frozen B2.out 1; simp only [List.getElem?_toArray, List.getElem?_cons_zero, List.getElem?_cons_succ] at hc0 hc1; obtain ⟨ad_, ea_, hcell_⟩ := (Kd.reads_of_C (d := 0) HC.out).at_ 0 (by decide) (by omega); obtain rfl := Option.some.inj ea_; clear ea_; have hcell : _ = some (Value.int .u8 (rd l 0)) := hcell_; clear hcell_; rw [show A.add (Int.toNat 0) = A from by cases A; first | rfl | simp [Addr.add]] at hcell))
  skip
  refine bodyPost_ret (results_ct rfl _ _ g2 69 #[.slice none 0 0, .int .i64 0] (0, 0) _ rfl (by (with_reducible repeat (first | refine blk_drewN ?_ _ | refine blk_drew ?_ | refine blk_alloc ?_ _)); refine blk_put (cs := #[.slice none 0 0, .int .i64 0]) ?_ 1 _ rfl; (with_reducible repeat (first | refine blk_drewN ?_ _ | refine blk_drew ?_ | refine blk_alloc ?_ _)); refine blk_put (cs := #[.slice none 0 0, .int .i64 0]) ?_ 0 _ rfl; (with_reducible repeat (first | refine blk_drewN ?_ _ | refine blk_drew ?_ | refine blk_alloc ?_ _)); exact B2.out) Try.underlying69 rfl (by kernel_rfl)) rfl ?_
  exact ⟨by first | rfl | (simp <;> rfl), by repeat (first | (with_reducible first | exact HB.out | apply below_alloc | apply pw_below_drewN | apply below_drew1 | refine below_set ?_ G2.out) | exact HB.out)⟩

set_option maxHeartbeats 8000000 in
set_option maxRecDepth 100000 in
theorem bl_of5 (A : Addr) (l : List Int) (c : Nat) (w : World) (hC : Kd.C (Kd.int .u8) w (some A) l.length l) (hc : l.length ≤ c) (h1 : 9 ≤ l.length) (h2 : l.length ≤ 8193) (h3 : 1 ≤ rd l 0) (h4 : rd l 0 ≤ 16) :
    Calls Try.prog 56 #[.slice (some A) l.length c] w fun e w' => e = .returned (.tuple #[.agg #[.slice (some (A.add 1)) (l.length - 1) (c - 1), .int .i64 (rd l 0)], .int .i64 0]) ∧ Below w.heap.size w w' := by
  have hu69 := Try.underlying69
  have HC := Aside0.mk hC
  clear hC
  have HB := Aside0.mk (Below.refl w.heap.size w)
  have d1 : decide ((l.length : Int) < 9) = false := decide_eq_false (by omega)
  have d2 : decide (l.length < 9) = false := decide_eq_false (by omega)
  have d3 : decide ((l.length : Int) > 8193) = false := decide_eq_false (by omega)
  have d4 : decide (l.length > 8193) = false := decide_eq_false (by omega)
  have d3' : decide (8193 < (l.length : Int)) = false := decide_eq_false (by omega)
  have d4' : decide (8193 < l.length) = false := decide_eq_false (by omega)
  have z1 : decide (0 < (l.length : Int)) = true := decide_eq_true (by omega)
  have z2 : decide (0 < l.length) = true := decide_eq_true (by omega)
  have d5 : decide (rd l 0 < 1) = false := decide_eq_false (by omega)
  have d6 : decide (rd l 0 > 16) = false := decide_eq_false (by omega)
  have d6' : decide (16 < rd l 0) = false := decide_eq_false (by omega)
  have hnc : ¬ c = 1 := by omega
  have hw : wrap64 (rd l 0) = rd l 0 := by unfold wrap64; omega

  go_enter Try.func56, Try.ntmps56
  go_wp2_with (first | ((with_reducible refine gate_dst (N := 2) rfl ?_); (try (refine gate_guard (by rfl) ?_; dsimp only)); refine box_event ?hg (N := 2) ?hd (cs := #[.slice none 0 0, .int .i64 0]) (t := 69) ?hr ?_; (case hd => rfl); (case hg => rfl); (case hr => first | (go_simp; done) | (go_simp; rfl)); intro g2 hg w1 hbox hb; have m0 := Aside0.mk (below_step (by repeat (first | (with_reducible first | exact HB.out | apply below_alloc | apply pw_below_drewN | apply below_drew1) | exact HB.out)) hb); have m1 := Aside0.mk hbox; have m2 := Aside0.mk ((by rw [hg]; exact (below_size (by repeat (first | (with_reducible first | exact HB.out | apply below_alloc | apply pw_below_drewN | apply below_drew1) | exact HB.out))) : w.heap.size ≤ g2)); have m3 := Aside0.mk (Kd.C_below (by (with_reducible repeat (first | apply Kd.C_alloc | apply Kd.C_drewN | apply Kd.C_drew)); exact HC.out) hb); clear HB HC; have HB := m0; have B2 := m1; have G2 := m2; have HC := m3; clear m0 m1 m2 m3; clear hb hbox hg; have hc0 := blk_cell B2.out 0; have hc1 := blk_cell B2.out 1; have hf0 := blk_frozen B2.out 0; have hf1 := blk_frozen B2.out 1; simp only [List.getElem?_toArray, List.getElem?_cons_zero, List.getElem?_cons_succ] at hc0 hc1; obtain ⟨ad_, ea_, hcell_⟩ := (Kd.reads_of_C (d := 0) HC.out).at_ 0 (by decide) (by omega); obtain rfl := Option.some.inj ea_; clear ea_; have hcell : _ = some (Value.int .u8 (rd l 0)) := hcell_; clear hcell_; rw [show A.add (Int.toNat 0) = A from by cases A; first | rfl | simp [Addr.add]] at hcell))
  go_region
  all_goals go_wp2
  refine bodyPost_ret (results_ct rfl _ _ g2 69 #[.slice (some (A.add 1)) (l.length - 1) (c - 1), .int .i64 (rd l 0)] (0, 0) _ rfl (by (with_reducible repeat (first | refine blk_drewN ?_ _ | refine blk_drew ?_ | refine blk_alloc ?_ _)); refine blk_put (cs := #[.slice (some (A.add 1)) (l.length - 1) (c - 1), .int .i64 0]) ?_ 1 _ rfl; (with_reducible repeat (first | refine blk_drewN ?_ _ | refine blk_drew ?_ | refine blk_alloc ?_ _)); refine blk_put (cs := #[.slice none 0 0, .int .i64 0]) ?_ 0 _ rfl; (with_reducible repeat (first | refine blk_drewN ?_ _ | refine blk_drew ?_ | refine blk_alloc ?_ _)); exact B2.out) Try.underlying69 rfl (by kernel_rfl)) rfl ?_
  exact ⟨by first | rfl | (simp <;> rfl), by repeat (first | (with_reducible first | exact HB.out | apply below_alloc | apply pw_below_drewN | apply below_drew1 | refine below_set ?_ G2.out) | exact HB.out)⟩

def bl_is (l : List Int) : Bool := decide (9 ≤ l.length) && decide (l.length ≤ 8193) && decide (1 ≤ rd l 0) && decide (rd l 0 ≤ 16)
theorem bl_is_iff {l : List Int} : bl_is l = true ↔ 9 ≤ l.length ∧ l.length ≤ 8193 ∧ 1 ≤ rd l 0 ∧ rd l 0 ≤ 16 := by
  unfold bl_is
  simp only [Bool.and_eq_true, decide_eq_true_eq, and_assoc]
theorem bl_some {A : Option Addr} {l : List Int} {w : World} (hC : Kd.C (Kd.int .u8) w A l.length l) (h : 0 < l.length) : ∃ ad, A = some ad := by
  obtain ⟨ad, ea, _⟩ := (Kd.reads_of_C (d := 0) hC).at_ 0 (by decide) (by omega)
  exact ⟨ad, ea⟩
theorem bl_of_bad (A : Option Addr) (l : List Int) (c : Nat) (w : World) (hC : Kd.C (Kd.int .u8) w A l.length l) (hc : l.length ≤ c) (h : bl_is l = false) :
    Calls Try.prog 56 #[.slice A l.length c] w fun e w' => e = .returned (.tuple #[.agg #[.slice none 0 0, .int .i64 0], .int .i64 110]) ∧ Below w.heap.size w w' := by
  have h' : ¬ (9 ≤ l.length ∧ l.length ≤ 8193 ∧ 1 ≤ rd l 0 ∧ rd l 0 ≤ 16) := fun q => by rw [bl_is_iff.2 q] at h; cases h
  by_cases c1 : l.length < 9
  · exact bl_of1 A l c w hC hc c1
  by_cases c2 : 8193 < l.length
  · exact bl_of2 A l c w hC hc c2
  obtain ⟨ad, rfl⟩ := bl_some hC (by omega)
  by_cases c3 : rd l 0 < 1
  · exact bl_of3 ad l c w hC hc (by omega) (by omega) c3
  · exact bl_of4 ad l c w hC hc (by omega) (by omega) (by omega)

/-! ### bloom_of: function 56 -/
-- BY HAND

def bloom_of.f (l0 : List Int) : Option (List Int × Int × Int) := if bl_is l0 = true then some (l0.drop 1, rd l0 0, 0) else some ([], 0, 110)
theorem bloom_of.calls (P0_ : Nat → Prop) (A0 : Option Addr) (c0 : Nat) (l0 : List Int) (r1 : List Int) (r2 : Int) (r3 : Int) (w : World) (hs0 : Kd.V (Kd.int .u8) 5 w w.heap.size (fun k_ => P0_ k_) (.slice A0 l0.length c0) l0) (h : bloom_of.f l0 = some (r1, r2, r3)) :
    Calls Try.prog 56 #[.slice A0 l0.length c0] w fun e w' => ∃ v0_ : Value, e = .returned (.tuple #[.agg #[v0_, .int .i64 r2], .int .i64 r3]) ∧ Kd.V (Kd.int .u8) 5 w' w.heap.size (fun k_ => (P0_ k_ ∨ w.heap.size ≤ k_)) v0_ r1 ∧ Below w.heap.size w w' := by
  obtain ⟨hn, hc, hF⟩ := Kd.V_at hs0
  have hC := Kd.F_now hF
  unfold bloom_of.f at h
  cases hi : bl_is l0 with
  | false =>
    rw [hi, if_neg (by decide)] at h
    simp only [Option.some.injEq, Prod.mk.injEq] at h
    obtain ⟨rfl, rfl, rfl⟩ := h
    refine (bl_of_bad A0 l0 c0 w hC hc hi).mono ?_
    rintro e w' ⟨rfl, hb⟩
    exact ⟨_, rfl, Kd.V_nil _ _ _ _ _, hb⟩
  | true =>
    rw [hi, if_pos rfl] at h
    simp only [Option.some.injEq, Prod.mk.injEq] at h
    obtain ⟨rfl, rfl, rfl⟩ := h
    obtain ⟨h1, h2, h3, h4⟩ := bl_is_iff.1 hi
    obtain ⟨ad, rfl⟩ := bl_some hC (by omega)
    refine (bl_of5 ad l0 c0 w hC hc h1 h2 h3 h4).mono ?_
    rintro e w' ⟨rfl, hb⟩
    refine ⟨_, rfl, ⟨some (ad.add 1), c0 - 1, by rw [List.length_drop], by rw [List.length_drop]; omega, ?_⟩, hb⟩
    intro W' hW'
    have q := Kd.C_drop (m := 1) (c := c0) (hF W' (fun k hk hlt => (hW' k (.inl hk) (Nat.lt_of_lt_of_le hlt hb.size)).trans (hb.block k hlt))) (by omega) hc
    rw [if_neg (by omega)] at q
    exact q

end Go.Proofs.Ytlehgphnjpgjnaa.PBloomMore
