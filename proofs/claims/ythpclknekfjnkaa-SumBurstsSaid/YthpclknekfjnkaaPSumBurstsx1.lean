-- Written by wip/xprint of this repo (our own program) out of the translation; what is marked BY HAND is ours. Not trusted: Lean checks it.
import Derived.Test.YthpclknekfjnkaaPSumBurstsx0
namespace Go.Proofs.Ythpclknekfjnkaa.PSumBursts
open Go.RowKit Go.Proofs.YthpclknekfjnkaaW.PrintWords Go.Proofs.YthpclknekfjnkaaW.PrintLast Go.Proofs.YthpclknekfjnkaaW.PrintMore
attribute [local go_sem] max2_int min2_int max_two min_two max_three min_three max_four min_four   -- for this text's walks alone
set_option linter.unusedVariables false
set_option linter.unusedSimpArgs false

/-! ### lienlaw01_cut: function 11 -/
def lienlaw01_cut.f (l0 : List Int) : Option (List Int) := if 0 ≤ (mn (l0.length : Int) 3000) then (if (mn (l0.length : Int) 3000) ≤ (l0.length : Int) then (some (l0.take ((mn (l0.length : Int) 3000) : Int).toNat)) else (none)) else (none)
set_option maxHeartbeats 8000000 in
set_option maxRecDepth 100000 in
theorem lienlaw01_cut.calls (P0_ : Nat → Prop) (A0 : Option Addr) (c0 : Nat) (l0 : List Int) (r : List Int) (w : World) (hs0 : Kd.V (Kd.int .u8) 5 w w.heap.size (fun k_ => P0_ k_) (.slice A0 l0.length c0) l0) (h : lienlaw01_cut.f l0 = some r) :
    Calls Try.prog 11 #[.slice A0 l0.length c0] w fun e w' => ∃ v0_ : Value, e = .returned (v0_) ∧ Kd.V (Kd.int .u8) 5 w' w.heap.size (fun k_ => (P0_ k_ ∨ w.heap.size ≤ k_)) v0_ r ∧ Below w.heap.size w w' := by
  have HO0 := Aside0.mk (show Kd.V (Kd.int .u8) 5 w w.heap.size (fun k_ => (P0_ k_ ∨ w.heap.size ≤ k_)) (.slice A0 l0.length c0) l0 from Kd.V_mono hs0 (fun k_ hk => .inl hk))
  have HB := Aside0.mk (Below.refl w.heap.size w)
  have H : (if 0 ≤ (mn (l0.length : Int) 3000) then (if (mn (l0.length : Int) 3000) ≤ (l0.length : Int) then (some (l0.take ((mn (l0.length : Int) 3000) : Int).toNat)) else (none)) else (none)) = some r := h
  clear h
  obtain ⟨ji2, hji2⟩ : ∃ j_ : Int, (mn (l0.length : Int) 3000) = j_ := ⟨_, rfl⟩
  replace H : (if 0 ≤ (ji2) then (if (ji2) ≤ (l0.length : Int) then (some (l0.take ((ji2) : Int).toNat)) else (none)) else (none)) = some r := by first | (rw [hji2] at H; exact H) | (simp only [hji2] at H ⊢; exact H)
  (try (have hji2h : ji2 ≤ 3000 := by (rw [← hji2]; unfold mn; (repeat' split) <;> omega)))
  (try (have hji2g : ji2 ≤ 64 := by omega))
  (try (have hji2l : 0 ≤ ji2 := by (rw [← hji2]; unfold mn; (repeat' split) <;> omega)))
  (try (have hji2m : 0 ≤ ji2 := by omega))
  have hji2_ : (if 3000 < (l0.length : Int) then 3000 else (l0.length : Int)) = ji2 := hji2
  by_cases c3 : 0 ≤ (ji2)
  · rw [if_pos c3] at H
    have c3b0 := eq_true c3
    have c3b1 : decide (0 ≤ (ji2)) = true := decide_eq_true c3
    clear c3
    by_cases c4 : (ji2) ≤ (l0.length : Int)
    · rw [if_pos c4] at H
      have c4b0 := eq_true c4
      have c4b1 : decide ((ji2) ≤ (l0.length : Int)) = true := decide_eq_true c4
      clear c4
      obtain ⟨y101, hy101⟩ : ∃ y_ : List Int, y_ = (l0.take ((ji2) : Int).toNat) := ⟨_, rfl⟩
      replace H : (some y101) = some r := by first | (rw [hy101]; with_reducible exact H) | (have H2_ := (Option.bind_some _ _).symm.trans H; rw [hy101]; with_reducible exact H2_) | (have H2_ := (Option.bind_some _ _).symm.trans H; with_reducible exact H2_) | with_reducible exact H | (rw [hy101]; exact H) | exact H
      have Ny101 := Aside0.mk hy101
      clear hy101
      obtain rfl := Option.some.inj H
      have q5 : ((ji2) : Int) ≤ ((l0.length : Int) : Int) := of_decide_eq_true (by first | (with_reducible assumption) | assumption)
      obtain ⟨i05, hi05, _, hsz5, _⟩ := info_parts info5
      have hroom5 : l0.length ≤ c0 := (Kd.V_reads' HO0.out).2.1
      have hC5 : Kd.F (Kd.int .u8) _ _ A0 l0.length l0 := (Kd.V_at (base := w.heap.size) HO0.out).2.2
      have hcut5 := cut_to (P := Try.prog) 22 5 .i64 Try.underlying22 hi05 A0 l0.length c0 (ji2) (of_decide_eq_true (by first | (with_reducible assumption) | assumption)) q5 hroom5
      have hr5 := Kd.F_take (m := ((ji2) : Int).toNat) hC5 (by omega)
      have hy5 : y101.length = ((ji2) : Int).toNat := (by rw [Ny101.out, List.length_take]; omega)
      rw [← Ny101.out] at hr5
      rw [← hy5] at hcut5
      have HO105 := Aside0.mk (show Kd.V (Kd.int .u8) 5 _ w.heap.size _ (.slice A0 y101.length c0) y101 from Kd.V_mk (by omega) hr5)
      have HC105 := Aside0.mk (show y101.length ≤ c0 from by omega)
      clear hr5 hC5 hroom5 hi05 hsz5
      have KY5 := Aside0.mk hy5
      clear hy5
      replace q5 := eq_true q5
      go_enter Try.func11, Try.ntmps11
      go_wp2
      go_ret
      exact ⟨_, by first | rfl | (simp [errW_none, errW_some] <;> rfl) | (simp only [← hji2]; first | rfl | (simp [errW_none, errW_some] <;> rfl)) | (simp [*, errW_none, errW_some] <;> rfl), by (with_reducible repeat (first | apply Kd.V_alloc | apply Kd.V_drewN | apply Kd.V_drew)); exact HO105.out, by repeat (first | (with_reducible first | exact HB.out | apply below_alloc | apply pw_below_drewN | apply below_drew1) | exact HB.out)⟩
    · rw [if_neg c4] at H
      exact absurd H (by simp)
  · rw [if_neg c3] at H
    exact absurd H (by simp)

-- NOT PRINTED: function 30 (sum_nibbles)

/-! ### ours: crc -/
def crcP : Nat := 2197175160
def st (c : Nat) : Nat := if c % 2 = 1 then c / 2 ^^^ crcP else c / 2
theorem st_lin (a b : Nat) : st (a ^^^ b) = st a ^^^ st b := by
  have hd : (a ^^^ b) / 2 = a / 2 ^^^ b / 2 := by
    have := Nat.xor_div_two_pow (a := a) (b := b) (n := 1)
    simpa using this
  have hm : (a ^^^ b) % 2 = (a % 2) ^^^ (b % 2) := by
    have := Nat.xor_mod_two_pow (a := a) (b := b) (n := 1)
    simpa using this
  unfold st
  rw [hd, hm]
  have ha : a % 2 = 0 ∨ a % 2 = 1 := by omega
  have hb : b % 2 = 0 ∨ b % 2 = 1 := by omega
  rcases ha with ha | ha <;> rcases hb with hb | hb <;> rw [ha, hb]
  · simp
  · simp [Nat.xor_assoc]
  · simp only [show (1 ^^^ 0 : Nat) = 1 from rfl, if_true, show ¬ (0 : Nat) = 1 by decide, if_false]
    rw [Nat.xor_assoc, Nat.xor_comm (b / 2), ← Nat.xor_assoc]
  · simp only [show (1 ^^^ 1 : Nat) = 0 from rfl, if_true, show ¬ (0 : Nat) = 1 by decide, if_false]
    rw [Nat.xor_assoc (a / 2), ← Nat.xor_assoc crcP, Nat.xor_comm crcP, Nat.xor_assoc (b / 2), Nat.xor_self, Nat.xor_zero]
theorem st_lt {c : Nat} (h : c < 2 ^ 32) : st c < 2 ^ 32 := by
  unfold st
  split
  · exact Nat.xor_lt_two_pow (by omega) (by decide)
  · omega
theorem st_inj0 {c : Nat} (h : c < 2 ^ 32) (hs : st c = 0) : c = 0 := by
  unfold st at hs
  split at hs
  · have e : c / 2 = crcP := by
      have q := congrArg (fun z => z ^^^ crcP) hs
      simpa [Nat.xor_assoc, Nat.xor_self] using q
    unfold crcP at e
    omega
  · omega
def stn : Nat → Nat → Nat
  | 0, c => c
  | n + 1, c => stn n (st c)
theorem stn_lin : ∀ (n a b : Nat), stn n (a ^^^ b) = stn n a ^^^ stn n b
  | 0, _, _ => rfl
  | n + 1, a, b => by rw [stn, stn, stn, st_lin, stn_lin n]
theorem stn_lt : ∀ (n : Nat) {c : Nat}, c < 2 ^ 32 → stn n c < 2 ^ 32
  | 0, _, h => h
  | n + 1, _, h => stn_lt n (st_lt h)
theorem stn_inj0 : ∀ (n : Nat) {c : Nat}, c < 2 ^ 32 → stn n c = 0 → c = 0
  | 0, _, _, h => h
  | n + 1, _, h, hs => st_inj0 h (stn_inj0 n (st_lt h) hs)
theorem stn_add : ∀ (m n c : Nat), stn (m + n) c = stn n (stn m c)
  | 0, n, c => by rw [Nat.zero_add]; rfl
  | m + 1, n, c => by rw [show m + 1 + n = (m + n) + 1 by omega, stn, stn_add m n]; rfl
theorem stn_zero : ∀ n : Nat, stn n 0 = 0
  | 0 => rfl
  | n + 1 => by
    show stn n (st 0) = 0
    rw [show st 0 = 0 from rfl, stn_zero n]
theorem st_even (q : Nat) : st (2 * q) = q := by
  unfold st
  rw [if_neg (by omega)]
  omega
theorem stn_pow : ∀ (n q : Nat), stn n (2 ^ n * q) = q
  | 0, q => by rw [stn, Nat.pow_zero, Nat.one_mul]
  | n + 1, q => by rw [stn, show 2 ^ (n + 1) * q = 2 * (2 ^ n * q) by rw [Nat.pow_succ, Nat.mul_comm (2 ^ n) 2, Nat.mul_assoc], st_even, stn_pow n]
theorem split_xor (n r : Nat) : r = (2 ^ n * (r / 2 ^ n)) ^^^ (r % 2 ^ n) := by
  refine Nat.eq_of_testBit_eq fun i => ?_
  rw [Nat.testBit_xor, Nat.testBit_two_pow_mul, Nat.testBit_mod_two_pow, Nat.testBit_div_two_pow]
  by_cases h : n ≤ i
  · simp [h, Nat.not_lt.2 h]
  · simp [h, Nat.lt_of_not_le h]
/-- Four steps at once: what half a byte makes of a register. -/
theorem stn_nib (r : Nat) : stn 4 r = r / 16 ^^^ stn 4 (r % 16) := by
  conv => lhs; rw [split_xor 4 r]
  rw [stn_lin, stn_pow]
def inb (c x : Nat) : Nat := stn 8 (c ^^^ x)
theorem inb_lt {c x : Nat} (hc : c < 2 ^ 32) (hx : x < 256) : inb c x < 2 ^ 32 := stn_lt 8 (Nat.xor_lt_two_pow hc (by omega))
theorem inb_nib (c x : Nat) : inb c x = ((c ^^^ x) / 16 ^^^ stn 4 ((c ^^^ x) % 16)) / 16 ^^^ stn 4 (((c ^^^ x) / 16 ^^^ stn 4 ((c ^^^ x) % 16)) % 16) := by
  unfold inb
  rw [show (8 : Nat) = 4 + 4 from rfl, stn_add, stn_nib (c ^^^ x), stn_nib]
def feedN (c : Nat) : List Int → Nat
  | [] => c
  | x :: xs => feedN (inb c x.toNat) xs
/-- What a grid makes of a register: the exclusive or of its rows where there are bits. -/
def comb (g : Nat → Nat) (r : Nat) : Nat → Nat
  | 0 => 0
  | n + 1 => if r / 2 ^ n % 2 = 1 then comb g r n ^^^ g n else comb g r n
theorem comb_lin {L : Nat → Nat} (h0 : L 0 = 0) (hl : ∀ a b, L (a ^^^ b) = L a ^^^ L b) (r : Nat) : ∀ n, comb (fun i => L (2 ^ i)) r n = L (r % 2 ^ n)
  | 0 => by rw [Nat.pow_zero, Nat.mod_one, h0]; rfl
  | n + 1 => by
    rw [comb, comb_lin h0 hl r n]
    have e : r % 2 ^ (n + 1) = (2 ^ n * (r / 2 ^ n % 2)) ^^^ (r % 2 ^ n) := by
      have := split_xor n (r % 2 ^ (n + 1))
      rw [Nat.mod_mod_of_dvd _ ⟨2, by rw [Nat.pow_succ]⟩, Nat.pow_succ, Nat.mod_mul_right_div_self] at this
      rw [Nat.pow_succ]
      exact this
    rw [e]
    split
    · rename_i h
      rw [h, Nat.mul_one, hl, Nat.xor_comm]
    · rename_i h
      rw [show r / 2 ^ n % 2 = 0 by omega, Nat.mul_zero, Nat.zero_xor]
theorem comb_stn (m r : Nat) (h : r < 2 ^ 32) : comb (fun i => stn m (2 ^ i)) r 32 = stn m r := by
  rw [comb_lin (stn_zero m) (stn_lin m), Nat.mod_eq_of_lt h]
theorem u32_wrap {n : Nat} (h : n < 2 ^ 32) : IntKind.u32.wrap (n : Int) = (n : Int) := by
  have : IntKind.u32.wrap (n : Int) = (n : Int) % 4294967296 := by simp [IntKind.wrap, IntKind.bits, IntKind.signed]
  rw [this]; omega
theorem u32_ofInt {n : Nat} (h : n < 2 ^ 32) : (BitVec.ofInt 32 (n : Int)).toNat = n := by
  rw [BitVec.toNat_ofInt, show ((n : Int) % ((2 ^ 32 : Nat) : Int)).toNat = n by omega]
theorem u32_xor {a b : Nat} (ha : a < 2 ^ 32) (hb : b < 2 ^ 32) : Go.bits .xor .u32 (a : Int) (b : Int) = ((a ^^^ b : Nat) : Int) := by
  have e : (BitVec.ofInt 32 (a : Int) ^^^ BitVec.ofInt 32 (b : Int)).toNat = a ^^^ b := by rw [BitVec.toNat_xor, u32_ofInt ha, u32_ofInt hb]
  show IntKind.u32.wrap ((BitVec.ofInt 32 (a : Int) ^^^ BitVec.ofInt 32 (b : Int)).toNat : Int) = _
  rw [e, u32_wrap (Nat.xor_lt_two_pow ha hb)]
theorem u32_and {a b : Nat} (ha : a < 2 ^ 32) (hb : b < 2 ^ 32) : Go.bits .and .u32 (a : Int) (b : Int) = ((a &&& b : Nat) : Int) := by
  have e : (BitVec.ofInt 32 (a : Int) &&& BitVec.ofInt 32 (b : Int)).toNat = a &&& b := by rw [BitVec.toNat_and, u32_ofInt ha, u32_ofInt hb]
  show IntKind.u32.wrap ((BitVec.ofInt 32 (a : Int) &&& BitVec.ofInt 32 (b : Int)).toNat : Int) = _
  rw [e, u32_wrap (Nat.lt_of_le_of_lt Nat.and_le_left ha)]
theorem u32_and1 {a : Nat} (ha : a < 2 ^ 32) : Go.bits .and .u32 (a : Int) 1 = ((a % 2 : Nat) : Int) := by
  have q := u32_and ha (show 1 < 2 ^ 32 by decide)
  rw [Nat.and_one_is_mod] at q
  exact q
theorem u32_and15 {a : Nat} (ha : a < 2 ^ 32) : Go.bits .and .u32 (a : Int) 15 = ((a % 16 : Nat) : Int) := by
  have q := u32_and ha (show 15 < 2 ^ 32 by decide)
  rw [show (15 : Nat) = 2 ^ 4 - 1 from rfl, Nat.and_two_pow_sub_one_eq_mod] at q
  exact q
/-- What half bytes make of zeros, up to j. -/
def nibTab (j : Nat) : Array Value := ((List.range 16).map fun i => if i < j then Value.int .u32 ((stn 4 i : Nat) : Int) else .int .u32 0).toArray
theorem nibTab_size (j : Nat) : (nibTab j).size = 16 := by simp [nibTab]
theorem nibTab_at (j i : Nat) (h : i < 16) : (nibTab j)[i]? = some (if i < j then Value.int .u32 ((stn 4 i : Nat) : Int) else .int .u32 0) := by
  simp [nibTab, h]
theorem nibTab_put (j : Nat) (h : j < 16) : (nibTab j).setIfInBounds j (.int .u32 ((stn 4 j : Nat) : Int)) = nibTab (j + 1) := by
  apply Array.ext_getElem?
  intro i
  rw [Array.getElem?_setIfInBounds]
  by_cases hi : i < 16
  · rw [nibTab_at (j + 1) i hi, nibTab_at j i hi, nibTab_size]
    by_cases c : j = i
    · subst c
      simp [h]
    · rw [if_neg c]
      by_cases c2 : i < j
      · rw [if_pos c2, if_pos (by omega)]
      · rw [if_neg c2, if_neg (by omega)]
  · have z : ∀ k, (nibTab k)[i]? = none := fun k => Array.getElem?_eq_none (by rw [nibTab_size]; omega)
    rw [z, z, nibTab_size]
    by_cases c : j = i
    · omega
    · rw [if_neg c]
/-- A grid: what m steps make of each bit, up to j. -/
def gridTab (m j : Nat) : Array Value := ((List.range 32).map fun i => if i < j then Value.int .u32 ((stn m (2 ^ i) : Nat) : Int) else .int .u32 0).toArray
theorem gridTab_size (m j : Nat) : (gridTab m j).size = 32 := by simp [gridTab]
theorem gridTab_at (m j i : Nat) (h : i < 32) : (gridTab m j)[i]? = some (if i < j then Value.int .u32 ((stn m (2 ^ i) : Nat) : Int) else .int .u32 0) := by
  simp [gridTab, h]
theorem gridTab_put (m j : Nat) (h : j < 32) : (gridTab m j).setIfInBounds j (.int .u32 ((stn m (2 ^ j) : Nat) : Int)) = gridTab m (j + 1) := by
  apply Array.ext_getElem?
  intro i
  rw [Array.getElem?_setIfInBounds]
  by_cases hi : i < 32
  · rw [gridTab_at m (j + 1) i hi, gridTab_at m j i hi, gridTab_size]
    by_cases c : j = i
    · subst c
      simp [h]
    · rw [if_neg c]
      by_cases c2 : i < j
      · rw [if_pos c2, if_pos (by omega)]
      · rw [if_neg c2, if_neg (by omega)]
  · have z : ∀ k, (gridTab m k)[i]? = none := fun k => Array.getElem?_eq_none (by rw [gridTab_size]; omega)
    rw [z, z, gridTab_size]
    by_cases c : j = i
    · omega
    · rw [if_neg c]
theorem nibTab_one (j : Nat) : (nibTab j).all (·.oneCell') = true := by
  rw [Array.all_eq_true_iff_forall_mem]
  intro v hv
  simp only [nibTab, List.mem_toArray, List.mem_map] at hv
  obtain ⟨i, _, rfl⟩ := hv
  split <;> rfl
theorem gridTab_one (m j : Nat) : (gridTab m j).all (·.oneCell') = true := by
  rw [Array.all_eq_true_iff_forall_mem]
  intro v hv
  simp only [gridTab, List.mem_toArray, List.mem_map] at hv
  obtain ⟨i, _, rfl⟩ := hv
  split <;> rfl
theorem sm_below_setRow {w W : World} {g : Nat} (h : Below w.heap.size w W) (hg : w.heap.size ≤ g) (cs : Array Value) : Below w.heap.size w (W.setRow g cs) :=
  ⟨h.os, h.tape, h.output, by rw [setRow_size]; exact h.size, fun k hk => (setRow_other W g k cs (by omega)).trans (h.block k hk)⟩
theorem comb_lt (m r : Nat) (n : Nat) : comb (fun i => stn m (2 ^ i)) r n < 2 ^ 32 ∨ 32 < n := by
  induction n with
  | zero => exact .inl (show 0 < 2 ^ 32 by decide)
  | succ n ih =>
    by_cases h : 32 < n + 1
    · exact .inr h
    · refine .inl ?_
      have ih' : comb (fun i => stn m (2 ^ i)) r n < 2 ^ 32 := by rcases ih with h1 | h1 <;> omega
      rw [comb]
      split
      · exact Nat.xor_lt_two_pow ih' (stn_lt m (Nat.pow_lt_pow_right (by decide) (by omega)))
      · exact ih'
def u32ok (r : Int) : Bool := decide (0 ≤ r) && decide (r < 4294967296)
def bytesOk (l : List Int) : Bool := l.all fun x => decide (0 ≤ x) && decide (x < 256)
theorem u32ok_nat {r : Int} (h : u32ok r = true) : ∃ n : Nat, r = (n : Int) ∧ n < 2 ^ 32 := by
  simp only [u32ok, Bool.and_eq_true, decide_eq_true_eq] at h
  exact ⟨r.toNat, by omega, by omega⟩
theorem bytesOk_at {l : List Int} (h : bytesOk l = true) {x : Int} (hx : x ∈ l) : ∃ n : Nat, x = (n : Int) ∧ n < 256 := by
  have q := List.all_eq_true.1 h x hx
  simp only [Bool.and_eq_true, decide_eq_true_eq] at q
  exact ⟨x.toNat, by omega, by omega⟩
theorem stn_one_pow (i : Nat) (h : 1 ≤ i) : stn 1 (2 ^ i) = 2 ^ (i - 1) := by
  obtain ⟨j, rfl⟩ : ∃ j, i = j + 1 := ⟨i - 1, by omega⟩
  show st (2 ^ (j + 1)) = 2 ^ (j + 1 - 1)
  rw [Nat.pow_succ, Nat.mul_comm, st_even]
  rfl
theorem i64_and1 {a : Nat} (h : a < 2 ^ 62) : Go.bits .and .i64 (a : Int) 1 = ((a % 2 : Nat) : Int) := by
  have e : (BitVec.ofInt 64 (a : Int) &&& BitVec.ofInt 64 (1 : Int)).toNat = a % 2 := by
    rw [BitVec.toNat_and, BitVec.toNat_ofInt, BitVec.toNat_ofInt, show ((a : Int) % ((2 ^ 64 : Nat) : Int)).toNat = a by omega, show ((1 : Int) % ((2 ^ 64 : Nat) : Int)).toNat = 1 by decide, Nat.and_one_is_mod]
  show IntKind.i64.wrap ((BitVec.ofInt 64 (a : Int) &&& BitVec.ofInt 64 (1 : Int)).toNat : Int) = _
  rw [e, IntKind.wrap_i64]
  have : a % 2 < 2 := Nat.mod_lt _ (by decide)
  omega
theorem odd_mul (m d : Nat) (h : d % 2 = 1) : m * d = m + (m + m) * (d / 2) := by
  have e : d = 2 * (d / 2) + 1 := by omega
  conv => lhs; rw [e, Nat.mul_add, Nat.mul_one, ← Nat.mul_assoc, Nat.mul_two, Nat.add_comm]
theorem even_mul (m d : Nat) (h : d % 2 = 0) : m * d = (m + m) * (d / 2) := by
  have e : d = 2 * (d / 2) := by omega
  conv => lhs; rw [e, ← Nat.mul_assoc, Nat.mul_two]

/-! ### ours: sm_nib -/

set_option maxHeartbeats 8000000 in
set_option maxRecDepth 100000 in
theorem sm_nibbles (w : World) :
    Calls Try.prog 30 #[] w fun e w' => e = .returned (.agg (nibTab 16)) ∧ Below w.heap.size w w' := by
  have hu46 := Try.underlying46
  have HB := Aside0.mk (Below.refl w.heap.size w)
  go_enter Try.func30, Try.ntmps30
  go_wp2_with (first | ((with_reducible refine gate_dst (N := 0) rfl ?_); (try (refine gate_guard (by rfl) ?_; dsimp only)); refine box_event ?hg (N := 0) ?hd (cs := nibTab 0) (t := 46) ?hr ?_; (case hd => rfl); (case hg => rfl); (case hr => first | (go_simp; done) | (go_simp; rfl)); intro g0 hg w1 hbox hb; have m0 := Aside0.mk (below_step (by repeat (first | (with_reducible first | exact HB.out | apply below_alloc | apply pw_below_drewN | apply below_drew1) | exact HB.out)) hb); have m1 := Aside0.mk hbox; have m2 := Aside0.mk ((by rw [hg]; exact (below_size (by repeat (first | (with_reducible first | exact HB.out | apply below_alloc | apply pw_below_drewN | apply below_drew1) | exact HB.out))) : w.heap.size ≤ g0)); clear HB ; have HB := m0; have B0 := m1; have G0 := m2; clear m0 m1 m2; clear hb hbox hg) | ((with_reducible refine gate_dst (N := 1) rfl ?_); (try (refine gate_guard (by rfl) ?_; dsimp only)); refine box_event ?hg (N := 1) ?hd (cs := nibTab 0) (t := 46) ?hr ?_; (case hd => rfl); (case hg => rfl); (case hr => first | (go_simp; done) | (go_simp; rfl)); intro g1 hg w2 hbox hb; have m0 := Aside0.mk (below_step (by repeat (first | (with_reducible first | exact HB.out | apply below_alloc | apply pw_below_drewN | apply below_drew1) | exact HB.out)) hb); have m1 := Aside0.mk hbox; have m2 := Aside0.mk ((by rw [hg]; exact (below_size (by repeat (first | (with_reducible first | exact HB.out | apply below_alloc | apply pw_below_drewN | apply below_drew1) | exact HB.out))) : w.heap.size ≤ g1)); have m3 := Aside0.mk (blk_below (g := g0) (o := .cells (nibTab 0) 46 (0, 0)) (by (with_reducible repeat (first | refine blk_drewN ?_ _ | refine blk_drew ?_ | refine blk_alloc ?_ _)); exact B0.out) hb); have m4 := Aside0.mk ((by rw [hg]; exact Nat.ne_of_lt (blk_lt (g := g0) (o := .cells (nibTab 0) 46 (0, 0)) (by (with_reducible repeat (first | refine blk_drewN ?_ _ | refine blk_drew ?_ | refine blk_alloc ?_ _)); exact B0.out)) : g0 ≠ g1)); clear HB B0; have HB := m0; have B1 := m1; have G1 := m2; have B0 := m3; have Ng0g1 := m4; clear m0 m1 m2 m3 m4; clear hb hbox hg))
  go_loopg [4] 16 (fun kq v4 w' => ∃ (j : Nat), v4 = .int .i64 (j : Int) ∧ Aside0 (kq + j = 16) ∧ Aside0 (w'.heap[g1]? = some (.cells (nibTab j) 46 (0, 0))) ∧ Aside0 (w'.heap[g0]? = some (.cells (nibTab 0) 46 (0, 0))) ∧ Aside0 (Below w.heap.size w w'))
  case atStart => exact ⟨0, rfl, ⟨rfl⟩, B1, B0, HB⟩
  case round =>
    clear B1 B0 HB
    obtain ⟨j, rfl, HK, B1, B0, HB⟩ := hrel
    cases gk with
    | zero =>
      have ej : j = 16 := by have := HK.out; omega
      subst ej
      go_wp2_with (first | ((with_reducible refine gate_dst (N := 24) rfl ?_); refine wpList_load_row rfl 46 _ rfl g1 rfl 46 (nibTab 16) (0, 0) _ B1.out hu46 rfl (by rw [nibTab_size]; rfl) ?_) | ((with_reducible refine gate_store (t := 46) (p := 0) rfl ?_); refine wpList_store_row rfl 46 _ _ rfl g0 (nibTab 16) rfl rfl 46 (nibTab 0) B0.out (by rw [nibTab_size]; rfl) (by rw [nibTab_size, nibTab_size]) (nibTab_one 16) ?_))
      refine bodyPost_ret (results_cell_row rfl _ _ g0 46 (nibTab 16) (0, 0) _ rfl (setRow_heap _ g0 _ _ _ _ B0.out) hu46 rfl (by rw [nibTab_size]; rfl)) rfl ?_
      exact ⟨rfl, sm_below_setRow HB.out G0.out _⟩
    | succ d =>
      have hj : j < 16 := by have := HK.out; omega
      have hjb : decide ((j : Int) < 16) = true := decide_eq_true (by omega)
      have hjb' : decide (j < 16) = true := decide_eq_true hj
      have hw : IntKind.u32.wrap (j : Int) = (j : Int) := u32_wrap (by omega)
      go_wp2
      go_loopg [3, 9] 4 (fun kq v3 v9 w' => ∃ (r i : Nat), v3 = .int .u32 (r : Int) ∧ v9 = .int .i64 (i : Int) ∧ Aside0 (kq + i = 4) ∧ Aside0 (r < 2 ^ 32) ∧ Aside0 (stn kq r = stn 4 j) ∧ w' = wr)
      case atStart => exact ⟨j, 0, rfl, rfl, ⟨rfl⟩, ⟨by omega⟩, ⟨rfl⟩, rfl⟩
      case round =>
        obtain ⟨r, i, rfl, rfl, HI, HR, HS, rfl⟩ := hrel
        cases gk with
        | zero =>
          have ei : i = 4 := by have := HI.out; omega
          subst ei
          have hs : r = stn 4 j := HS.out
          have hc := blk_cell B1.out j
          rw [nibTab_at j j hj, if_neg (Nat.lt_irrefl j)] at hc
          have hf := blk_frozen B1.out j
          go_wp2
          go_roundg d
          case measure => omega
          case rel => exact ⟨j + 1, by first | rfl | (rw [show wrap64 ((j : Int) + 1) = ((j + 1 : Nat) : Int) from by unfold wrap64; omega]), ⟨by have := HK.out; omega⟩, ⟨by rw [← nibTab_put j hj]; exact blk_set B1.out j _⟩, ⟨blk_far B0.out Ng0g1.out _⟩, ⟨below_set HB.out G1.out⟩⟩
        | succ m =>
          have hib : decide ((i : Int) < 4) = true := decide_eq_true (by have := HI.out; omega)
          have hib' : decide (i < 4) = true := decide_eq_true (by have := HI.out; omega)
          have hi4 : i < 4 := by have := HI.out; omega
          have ha := u32_and1 HR.out
          have hn : stn m (st r) = stn 4 j := HS.out
          rcases (show r % 2 = 1 ∨ r % 2 = 0 by omega) with h2 | h2
          · rw [h2] at ha
            have ha' : Go.bits .and .u32 (r : Int) 1 = 1 := ha
            clear ha
            have hx : Go.bits .xor .u32 ((r : Int) / 2) 2197175160 = ((st r : Nat) : Int) := by
              rw [show (r : Int) / 2 = ((r / 2 : Nat) : Int) by omega, show (2197175160 : Int) = ((crcP : Nat) : Int) from rfl, u32_xor (by have := HR.out; omega) (by decide)]
              unfold st
              rw [if_pos h2]
            go_wp2
            go_roundg m
            case measure => omega
            case rel => exact ⟨st r, i + 1, rfl, by first | rfl | (rw [show wrap64 ((i : Int) + 1) = ((i + 1 : Nat) : Int) from by unfold wrap64; omega]), ⟨by have := HI.out; omega⟩, ⟨st_lt HR.out⟩, ⟨hn⟩, rfl⟩
          · rw [h2] at ha
            have ha' : Go.bits .and .u32 (r : Int) 1 = 0 := ha
            clear ha
            go_wp2
            go_roundg m
            case measure => omega
            case rel => exact ⟨st r, i + 1, by rw [show ((st r : Nat) : Int) = (r : Int) / 2 by unfold st; rw [if_neg (by omega)]; omega], by first | rfl | (rw [show wrap64 ((i : Int) + 1) = ((i + 1 : Nat) : Int) from by unfold wrap64; omega]), ⟨by have := HI.out; omega⟩, ⟨st_lt HR.out⟩, ⟨hn⟩, rfl⟩

/-! ### sum_feed: function 25 -/
-- BY HAND

def sum_feed.f (a0 : Int) (l1 : List Int) : Option Int := if (u32ok a0 && bytesOk l1) = true then some ((feedN a0.toNat l1 : Nat) : Int) else none
set_option maxHeartbeats 8000000 in
set_option maxRecDepth 100000 in
theorem sum_feed.calls (a0 : Int) (A1 : Option Addr) (c1 : Nat) (l1 : List Int) (r : Int) (w : World) (hr1 : Kd.C (Kd.int .u8) w A1 l1.length l1) (hc1 : l1.length ≤ c1) (h : sum_feed.f a0 l1 = some r) :
    Calls Try.prog 25 #[.int .u32 a0, .slice A1 l1.length c1] w fun e w' => e = .returned (.int .u32 r) ∧ Below w.heap.size w w' := by
  have hu46 := Try.underlying46
  unfold sum_feed.f at h
  by_cases hk : (u32ok a0 && bytesOk l1) = true
  case neg => rw [if_neg hk] at h; cases h
  rw [if_pos hk] at h
  obtain rfl := Option.some.inj h
  clear h
  rw [Bool.and_eq_true] at hk
  obtain ⟨hk1, hk2⟩ := hk
  obtain ⟨n0, rfl, hn0⟩ := u32ok_nat hk1
  rw [Int.toNat_natCast]
  obtain ⟨R, hR⟩ : ∃ R, feedN n0 l1 = R := ⟨_, rfl⟩
  rw [hR]
  have HR0 := Aside0.mk hR
  have HK2 := Aside0.mk hk2
  clear hR hk2 hk1
  have HC := Aside0.mk hr1
  clear hr1
  have HB := Aside0.mk (Below.refl w.heap.size w)
  go_enter Try.func25, Try.ntmps25
  go_wp2_with (first | ((with_reducible refine gate_callee (f := 30) rfl ?_); refine goesL_ (some 8) rfl rfl Try.func30 (by kernel_rfl) rfl #[] rfl (by (try simp only [List.map_toArray, List.map_cons, List.map_nil]); first | done | rfl) ?_; (with_reducible refine (sm_nibbles _).mono ?_); rintro e w2 ⟨rfl, hb⟩; refine ⟨_, rfl, ?_⟩; have m0 := Aside0.mk (below_step (by repeat (first | (with_reducible first | exact HB.out | apply below_alloc | apply pw_below_drewN | apply below_drew1) | exact HB.out)) hb); have m1 := Aside0.mk (Kd.C_below (by (with_reducible repeat (first | apply Kd.C_alloc | apply Kd.C_drewN | apply Kd.C_drew)); exact HC.out) hb); clear HB HC hb; have HB := m0; have HC := m1; clear m0 m1) | ((with_reducible refine gate_dst (N := 5) rfl ?_); (try (refine gate_guard (by rfl) ?_; dsimp only)); refine box_event ?hg (N := 5) ?hd (cs := nibTab 0) (t := 46) ?hr ?_; (case hd => rfl); (case hg => rfl); (case hr => first | (go_simp; done) | (go_simp; rfl)); intro g5 hg w3 hbox hb; have m0 := Aside0.mk (below_step (by repeat (first | (with_reducible first | exact HB.out | apply below_alloc | apply pw_below_drewN | apply below_drew1) | exact HB.out)) hb); have m1 := Aside0.mk hbox; have m2 := Aside0.mk ((by rw [hg]; exact (below_size (by repeat (first | (with_reducible first | exact HB.out | apply below_alloc | apply pw_below_drewN | apply below_drew1) | exact HB.out))) : w.heap.size ≤ g5)); have m3 := Aside0.mk (Kd.C_below (by (with_reducible repeat (first | apply Kd.C_alloc | apply Kd.C_drewN | apply Kd.C_drew)); exact HC.out) hb); have m4 := Aside0.mk (show ∀ cs, Kd.C (Kd.int .u8) (w3.setRow g5 cs) A1 l1.length l1 from fun cs => Kd.C_below (by (with_reducible repeat (first | apply Kd.C_alloc | apply Kd.C_drewN | apply Kd.C_drew)); exact HC.out) (sm_below_setRow hb (Nat.le_of_eq hg.symm) cs)); clear HB HC; have HB := m0; have B5 := m1; have G5 := m2; have HC := m3; have HCS := m4; clear m0 m1 m2 m3 m4; clear hb hbox hg) | ((with_reducible refine gate_store (t := 46) (p := 5) rfl ?_); refine wpList_store_row rfl 46 _ _ rfl g5 (nibTab 16) rfl rfl 46 (nibTab 0) B5.out (by rw [nibTab_size]; rfl) (by rw [nibTab_size, nibTab_size]) (nibTab_one 16) ?_))
  have B6 := Aside0.mk (setRow_heap w3 g5 (nibTab 0) (nibTab 16) 46 (0, 0) B5.out)
  have HB6 := Aside0.mk (sm_below_setRow HB.out G5.out (nibTab 16))
  have HC6 := Aside0.mk (HCS.out (nibTab 16))
  clear HB HC HCS B5
  generalize w3.setRow g5 (nibTab 16) = w6 at B6 HB6 HC6 ⊢
  go_loopg [0, 11] l1.length (fun kq v0 v11 w' => ∃ (a j : Nat), v0 = .int .u32 (a : Int) ∧ v11 = .int .i64 (j : Int) ∧ Aside0 (kq + j = l1.length) ∧ Aside0 (a < 2 ^ 32) ∧ Aside0 (feedN a (l1.drop j) = R) ∧ w' = w6)
  case atStart => exact ⟨n0, 0, rfl, rfl, ⟨rfl⟩, ⟨hn0⟩, HR0, rfl⟩
  case round =>
    clear HR0
    obtain ⟨a, j, rfl, rfl, HK, HA, HS, rfl⟩ := hrel
    cases gk with
    | zero =>
      have ej : j = l1.length := by have := HK.out; omega
      have hs := HS.out
      rw [List.drop_eq_nil_of_le (by omega)] at hs
      have hs' : a = R := hs
      subst hs'
      subst ej
      clear hs HS
      go_wp2
      go_ret
      exact ⟨rfl, HB6.out⟩
    | succ d =>
      have hj : j < l1.length := by have := HK.out; omega
      have hmx := Kd.C_max HC6.out
      have hjb : decide ((j : Int) < (l1.length : Int)) = true := decide_eq_true (by omega)
      have hjb' : decide (j < l1.length) = true := decide_eq_true hj
      have hs := HS.out
      rw [List.drop_eq_getElem_cons hj] at hs
      clear HS
      obtain ⟨ad_, ea_, hcell⟩ := (Kd.reads_of_C (d := 0) HC6.out).at_ (j : Int) (by omega) (by omega)
      subst ea_
      rw [Int.toNat_natCast, show rdOf 0 l1 (j : Int) = l1[j] by simp [rdOf, List.getD_eq_getElem?_getD, hj]] at hcell
      obtain ⟨b, hb, hb2⟩ := bytesOk_at HK2.out (List.getElem_mem hj)
      rw [hb] at hcell hs
      have hcell' : _ = some (Value.int .u8 (b : Int)) := hcell
      clear hcell hb
      have hs' : feedN (inb a b) (l1.drop (j + 1)) = R := hs
      clear hs
      have HS := Aside0.mk hs'
      clear hs'
      have ha := HA.out
      have hw : IntKind.u32.wrap (b : Int) = (b : Int) := u32_wrap (by omega)
      obtain ⟨y, hy⟩ : ∃ y, a ^^^ b = y := ⟨_, rfl⟩
      have hyl : y < 2 ^ 32 := by rw [← hy]; exact Nat.xor_lt_two_pow ha (by omega)
      have hx1 : Go.bits .xor .u32 (a : Int) (b : Int) = (y : Int) := by rw [u32_xor ha (by omega), hy]
      obtain ⟨i1, hi1⟩ : ∃ i1, y % 16 = i1 := ⟨_, rfl⟩
      have hi1l : i1 < 16 := by omega
      have hx2 : Go.bits .and .u32 (y : Int) 15 = (i1 : Int) := by rw [u32_and15 hyl, hi1]
      obtain ⟨z, hz⟩ : ∃ z, stn 4 y = z := ⟨_, rfl⟩
      have hzl : z < 2 ^ 32 := by rw [← hz]; exact stn_lt 4 hyl
      have hx3 : Go.bits .xor .u32 ((y : Int) / 16) ((stn 4 i1 : Nat) : Int) = (z : Int) := by
        rw [show (y : Int) / 16 = ((y / 16 : Nat) : Int) by omega, u32_xor (by omega) (stn_lt 4 (by omega)), ← hz, stn_nib y, hi1]
      obtain ⟨i2, hi2⟩ : ∃ i2, z % 16 = i2 := ⟨_, rfl⟩
      have hi2l : i2 < 16 := by omega
      have hx4 : Go.bits .and .u32 (z : Int) 15 = (i2 : Int) := by rw [u32_and15 hzl, hi2]
      obtain ⟨v, hv⟩ : ∃ v, stn 4 z = v := ⟨_, rfl⟩
      have hvl : v < 2 ^ 32 := by rw [← hv]; exact stn_lt 4 hzl
      have hx5 : Go.bits .xor .u32 ((z : Int) / 16) ((stn 4 i2 : Nat) : Int) = (v : Int) := by
        rw [show (z : Int) / 16 = ((z / 16 : Nat) : Int) by omega, u32_xor (by omega) (stn_lt 4 (by omega)), ← hv, stn_nib z, hi2]
      have hin : inb a b = v := by unfold inb; rw [hy, show (8 : Nat) = 4 + 4 from rfl, stn_add, hz, hv]
      have HV := Aside0.mk hin
      clear hy hi1 hz hi2 hv hin
      have hn1 := blk_cell B6.out i1
      rw [nibTab_at 16 i1 hi1l, if_pos hi1l] at hn1
      have hn2 := blk_cell B6.out i2
      rw [nibTab_at 16 i2 hi2l, if_pos hi2l] at hn2
      go_wp2
      go_roundg d
      case measure => omega
      case rel => exact ⟨v, j + 1, rfl, by first | rfl | (rw [show wrap64 ((j : Int) + 1) = ((j + 1 : Nat) : Int) from by unfold wrap64; omega]), ⟨by have := HK.out; omega⟩, ⟨hvl⟩, ⟨by rw [← HV.out]; exact HS.out⟩, rfl⟩

/-! ### sum_Of: function 17 -/
def sum_Of.f (l0 : List Int) : Option (Int) := (sum_feed.f 4294967295 l0).bind fun t106 => (some (Go.bits .xor .u32 4294967295 t106))
set_option maxHeartbeats 8000000 in
set_option maxRecDepth 100000 in
theorem sum_Of.calls (A0 : Option Addr) (c0 : Nat) (l0 : List Int) (r : Int) (w : World) (hr0 : Kd.C (Kd.int .u8) w A0 l0.length l0) (hc0 : l0.length ≤ c0) (h : sum_Of.f l0 = some r) :
    Calls Try.prog 17 #[.slice A0 l0.length c0] w fun e w' => e = .returned (.int .u32 r) ∧ Below w.heap.size w w' := by
  have HR0 := Aside0.mk hr0
  have HC0 := Aside0.mk hc0
  clear hr0 hc0
  have HB := Aside0.mk (Below.refl w.heap.size w)
  have H : ((sum_feed.f 4294967295 l0).bind fun t106 => (some (Go.bits .xor .u32 4294967295 t106))) = some r := h
  clear h
  replace H := Option.bind_eq_some_iff.mp H
  obtain ⟨t106, A20, H⟩ := H
  replace H : (some (Go.bits .xor .u32 4294967295 t106)) = some r := H
  have A2 := Aside0.mk A20
  clear A20
  obtain rfl := Option.some.inj H
  go_enter Try.func17, Try.ntmps17
  go_wp2_with (first | ((with_reducible refine gate_callee (f := 25) rfl ?_); refine goesL_ (some 4) rfl rfl Try.func25 (by kernel_rfl) rfl #[.int .u32 4294967295, .slice A0 l0.length c0] rfl (by (try simp only [List.map_toArray, List.map_cons, List.map_nil]); first | done | rfl | (simp only [List.length_drop, List.length_take]; rfl)) ?_; (with_reducible refine (sum_feed.calls 4294967295 _ _ l0 t106 _ ?side1 ?side2 A2.out).mono ?_); (case side1 => repeat (first | exact HR0.out | (with_reducible refine Kd.C_alloc ?_ _) | (with_reducible refine Kd.C_drewN ?_ _) | (with_reducible refine Kd.C_drew ?_))); (case side2 => exact HC0.out); rintro e w3 ⟨rfl, hb⟩; refine ⟨_, rfl, ?_⟩; have n0_ := Aside0.mk (below_step (by repeat (first | (with_reducible first | exact HB.out | apply below_alloc | apply pw_below_drewN | apply below_drew1) | exact HB.out)) hb); clear HB; have HB := n0_; clear n0_; (try clear hb); (try clear hb2); (try clear hk); (try clear hi)))
  go_ret
  exact ⟨by first | rfl | (simp [errW_none, errW_some] <;> rfl) | (simp [*, errW_none, errW_some] <;> rfl), by repeat (first | (with_reducible first | exact HB.out | apply below_alloc | apply pw_below_drewN | apply below_drew1) | exact HB.out)⟩

/-! ### sum_Open: function 12 -/
def sum_Open.l0 : Nat → List Int → Int → Int → Int → Option (List Int × Int)
  | 0, _, _, _, _ => none
  | k + 1, x0, x4, x5, x16 => if x16 < 4 then (if 0 ≤ (wrap64 (x4 + x16)) then (if (wrap64 (x4 + x16)) < (x0.length : Int) then (if 0 ≤ (wrap64 (8 * x16)) then (if (rd x0 (wrap64 (x4 + x16))) = ((shr .u32 x5 (wrap64 (8 * x16))) % 256) then (sum_Open.l0 k x0 x4 x5 (wrap64 (x16 + 1))) else (some (([] : List Int), 10))) else (none)) else (none)) else (none)) else ((some (([] : List Int) : List Int)).bind fun y110 => (if 0 ≤ x4 then (if x4 ≤ (x0.length : Int) then (if y110.length + (x0.take (x4 : Int).toNat).length < 140737488355328 then (some ((y110 ++ (x0.take (x4 : Int).toNat)), 0)) else (none)) else (none)) else (none)))
def sum_Open.f (k : Nat) (l0 : List Int) : Option (List Int × Int) := if (wrap64 ((l0.length : Int) - 4)) < 0 then (some (([] : List Int), 10)) else (if 0 ≤ (wrap64 ((l0.length : Int) - 4)) then (if (wrap64 ((l0.length : Int) - 4)) ≤ (l0.length : Int) then ((sum_Of.f (l0.take ((wrap64 ((l0.length : Int) - 4)) : Int).toNat)).bind fun t108 => (sum_Open.l0 k l0 (wrap64 ((l0.length : Int) - 4)) t108 0)) else (none)) else (none))
theorem sum_Open.mono_l : ∀ k, (∀ y0 y1 y2 y3, LeO (sum_Open.l0 k y0 y1 y2 y3) (sum_Open.l0 (k + 1) y0 y1 y2 y3))
  | 0 => fun _ _ _ _ r h => by simp [sum_Open.l0] at h
  | k + 1 => by
    have ih0 := sum_Open.mono_l k
    · intro y0 y1 y2 y3
      unfold sum_Open.l0
      repeat' first
      | (with_reducible exact ih0 _ _ _ _)
      | (with_reducible exact LeO.refl _)
      | (with_reducible exact LeO.none _)
      | (with_reducible refine LeO.ite ?_ ?_)
      | (with_reducible refine LeO.bind ?_ (fun _ => ?_))
      | exact ih0 _ _ _ _
      | exact LeO.none _
      | refine LeO.ite ?_ ?_
      | refine LeO.bind ?_ (fun _ => ?_)
theorem sum_Open.mono : ∀ a0 k, LeO (sum_Open.f k a0) (sum_Open.f (k + 1) a0) := by
  intro a0 k
  have ih0 := sum_Open.mono_l k
  unfold sum_Open.f
  repeat' first
      | (with_reducible exact ih0 _ _ _ _)
      | (with_reducible exact LeO.refl _)
      | (with_reducible exact LeO.none _)
      | (with_reducible refine LeO.ite ?_ ?_)
      | (with_reducible refine LeO.bind ?_ (fun _ => ?_))
      | exact ih0 _ _ _ _
      | exact LeO.none _
      | refine LeO.ite ?_ ?_
      | refine LeO.bind ?_ (fun _ => ?_)
set_option maxHeartbeats 8000000 in
set_option maxRecDepth 100000 in
theorem sum_Open.calls (k : Nat) (A0 : Option Addr) (c0 : Nat) (l0 : List Int) (r1 : List Int) (r2 : Int) (w : World) (hr0 : Kd.C (Kd.int .u8) w A0 l0.length l0) (hc0 : l0.length ≤ c0) (h : sum_Open.f k l0 = some (r1, r2)) :
    Calls Try.prog 12 #[.slice A0 l0.length c0] w fun e w' => ∃ v0_ : Value, e = .returned (.tuple #[v0_, .int .i64 r2]) ∧ Kd.R (Kd.int .u8) 5 w' w.heap.size (fun _ => True) v0_ r1 ∧ Below w.heap.size w w' := by
  have HR0 := Aside0.mk hr0
  have HC0 := Aside0.mk hc0
  clear hr0 hc0
  have HB := Aside0.mk (Below.refl w.heap.size w)
  have H : (if (wrap64 ((l0.length : Int) - 4)) < 0 then (some (([] : List Int), 10)) else (if 0 ≤ (wrap64 ((l0.length : Int) - 4)) then (if (wrap64 ((l0.length : Int) - 4)) ≤ (l0.length : Int) then ((sum_Of.f (l0.take ((wrap64 ((l0.length : Int) - 4)) : Int).toNat)).bind fun t108 => (sum_Open.l0 k l0 (wrap64 ((l0.length : Int) - 4)) t108 0)) else (none)) else (none))) = some (r1, r2) := h
  clear h
  by_cases c2 : (wrap64 ((l0.length : Int) - 4)) < 0
  · rw [if_pos c2] at H
    have c2b0 : decide ((wrap64 ((l0.length : Int) - 4)) < 0) = true := decide_eq_true c2
    clear c2
    simp only [Option.some.injEq, Prod.mk.injEq] at H
    obtain ⟨rfl, rfl⟩ := H
    go_enter Try.func12, Try.ntmps12
    go_wp2
    repeat (go_quiet (fail); try go_wp2)
    go_ret2
    exact ⟨_, by first | rfl | (simp [errW_none, errW_some] <;> rfl) | (simp [*, errW_none, errW_some] <;> rfl), by first | exact Kd.R_nil _ _ _ _ _ | exact Kd.N_nil _ _ _ _ _ | exact Kd.V_nil _ _ _ _ _ | exact Kd.Q_nil _ _ _ _ _ | exact Kd.S_nil _ _ _ _ _, by repeat (first | (with_reducible first | exact HB.out | apply below_alloc | apply pw_below_drewN | apply below_drew1) | exact HB.out)⟩
  · rw [if_neg c2] at H
    have c2b0 : decide ((wrap64 ((l0.length : Int) - 4)) < 0) = false := decide_eq_false c2
    clear c2
    obtain ⟨ji3, hji3⟩ : ∃ j_ : Int, (wrap64 ((l0.length : Int) - 4)) = j_ := ⟨_, rfl⟩
    replace H : (if 0 ≤ (ji3) then (if (ji3) ≤ (l0.length : Int) then ((sum_Of.f (l0.take ((ji3) : Int).toNat)).bind fun t108 => (sum_Open.l0 k l0 ji3 t108 0)) else (none)) else (none)) = some (r1, r2) := by first | (rw [hji3] at H; exact H) | (simp only [hji3] at H ⊢; exact H)
    (try rw [hji3] at c2b0)
    have hji3w : (IntKind.i64.wrap ((l0.length : Int) - 4)) = ji3 := (i64_w _).trans hji3
    by_cases c4 : 0 ≤ (ji3)
    · rw [if_pos c4] at H
      have c4b0 := eq_true c4
      have c4b1 : decide (0 ≤ (ji3)) = true := decide_eq_true c4
      clear c4
      by_cases c5 : (ji3) ≤ (l0.length : Int)
      · rw [if_pos c5] at H
        have c5b0 := eq_true c5
        have c5b1 : decide ((ji3) ≤ (l0.length : Int)) = true := decide_eq_true c5
        clear c5
        replace H := Option.bind_eq_some_iff.mp H
        obtain ⟨t108, A60, H⟩ := H
        replace H : (sum_Open.l0 k l0 ji3 t108 0) = some (r1, r2) := H
        have A6 := Aside0.mk A60
        clear A60
        have H' := Aside0.mk H
        clear H
        obtain ⟨i07, hi07, _, hsz7, _⟩ := info_parts info5
        obtain ⟨hcut7, hA7, hC7⟩ := print_take_of (P := Try.prog) (Value.int .u8) 0 22 5 .i64 Try.underlying22 hi07 hsz7 A0 c0 l0 (ji3) (of_decide_eq_true (by first | (with_reducible assumption) | assumption)) (of_decide_eq_true (by first | (with_reducible assumption) | assumption)) HC0.out
        have HR107 := Aside0.mk (Kd.C_of_reads (h1 := fun _ => rfl) (hA7 _ (Kd.reads_of_C HR0.out)))
        have HC107 := Aside0.mk hC7
        clear hA7 hC7 hi07 hsz7
        (try have HLHR107 := Aside0.mk (show ((l0.take ((ji3) : Int).toNat).length : Int) = (ji3) from by have h0_ : 0 ≤ (ji3) := of_decide_eq_true (by first | (with_reducible assumption) | assumption); have h1_ : (ji3) ≤ (l0.length : Int) := of_decide_eq_true (by first | (with_reducible assumption) | assumption); rw [List.length_take]; omega))
        (try have HLHR107m := Aside0.mk (show ((l0.take ((ji3) : Int).toNat).length : Int) = max (ji3) 0 from by have h2_ := HLHR107.out; omega))
        go_enter Try.func12, Try.ntmps12
        go_wp2_with (first | (go_at_call 17; (try rw [show ji3.toNat = (l0.take (ji3 : Int).toNat).length from by rw [List.length_take]; have h0_ : 0 ≤ ji3 := of_decide_eq_true (by first | (with_reducible assumption) | assumption); have h1_ : ji3 ≤ (l0.length : Int) := of_decide_eq_true (by first | (with_reducible assumption) | assumption); omega]); (with_reducible refine (sum_Of.calls _ _ (l0.take ((ji3) : Int).toNat) t108 _ ?side1 ?side2 A6.out).mono ?_); (case side1 => repeat (first | exact HR107.out | (with_reducible refine Kd.C_alloc ?_ _) | (with_reducible refine Kd.C_drewN ?_ _) | (with_reducible refine Kd.C_drew ?_))); (case side2 => exact HC107.out); rintro e w8 ⟨rfl, hb⟩; have n0_ := Aside0.mk (below_step (by repeat (first | (with_reducible first | exact HB.out | apply below_alloc | apply pw_below_drewN | apply below_drew1) | exact HB.out)) hb); clear HB; have HB := n0_; clear n0_; (try clear hb); (try clear hb2); (try clear hk); (try clear hi)))
        repeat (go_quiet (first | (go_at_call 17; (try rw [show ji3.toNat = (l0.take (ji3 : Int).toNat).length from by rw [List.length_take]; have h0_ : 0 ≤ ji3 := of_decide_eq_true (by first | (with_reducible assumption) | assumption); have h1_ : ji3 ≤ (l0.length : Int) := of_decide_eq_true (by first | (with_reducible assumption) | assumption); omega]); (with_reducible refine (sum_Of.calls _ _ (l0.take ((ji3) : Int).toNat) t108 _ ?side1 ?side2 A6.out).mono ?_); (case side1 => repeat (first | exact HR107.out | (with_reducible refine Kd.C_alloc ?_ _) | (with_reducible refine Kd.C_drewN ?_ _) | (with_reducible refine Kd.C_drew ?_))); (case side2 => exact HC107.out); rintro e w8 ⟨rfl, hb⟩; have n0_ := Aside0.mk (below_step (by repeat (first | (with_reducible first | exact HB.out | apply below_alloc | apply pw_below_drewN | apply below_drew1) | exact HB.out)) hb); clear HB; have HB := n0_; clear n0_; (try clear hb); (try clear hb2); (try clear hk); (try clear hi))); try go_wp2_with (first | (go_at_call 17; (try rw [show ji3.toNat = (l0.take (ji3 : Int).toNat).length from by rw [List.length_take]; have h0_ : 0 ≤ ji3 := of_decide_eq_true (by first | (with_reducible assumption) | assumption); have h1_ : ji3 ≤ (l0.length : Int) := of_decide_eq_true (by first | (with_reducible assumption) | assumption); omega]); (with_reducible refine (sum_Of.calls _ _ (l0.take ((ji3) : Int).toNat) t108 _ ?side1 ?side2 A6.out).mono ?_); (case side1 => repeat (first | exact HR107.out | (with_reducible refine Kd.C_alloc ?_ _) | (with_reducible refine Kd.C_drewN ?_ _) | (with_reducible refine Kd.C_drew ?_))); (case side2 => exact HC107.out); rintro e w8 ⟨rfl, hb⟩; have n0_ := Aside0.mk (below_step (by repeat (first | (with_reducible first | exact HB.out | apply below_alloc | apply pw_below_drewN | apply below_drew1) | exact HB.out)) hb); clear HB; have HB := n0_; clear n0_; (try clear hb); (try clear hb2); (try clear hk); (try clear hi))))
        go_loopg [16] k (fun kq v16 w' => ∃ (x16_1 : Int), v16 = .int .i64 x16_1 ∧ Aside0 (sum_Open.l0 kq l0 ji3 t108 x16_1 = some (r1, r2)) ∧ Aside0 (kq ≤ k) ∧ Aside0 (Below w.heap.size w w'))
        case atStart => exact ⟨(0), (by first | rfl | (simp; done) | (simp [*]; done)), H', ⟨Nat.le_refl _⟩, ⟨by repeat (first | (with_reducible first | exact HB.out | apply below_alloc | apply pw_below_drewN | apply below_drew1) | exact HB.out)⟩⟩
        case round =>
          clear H'
          try clear c1
          try clear c2
          try clear c2b0
          try clear p2
          try clear c4
          try clear c4b0
          try clear c4b1
          try clear c5
          try clear c5b0
          try clear c5b1
          try clear p6
          obtain ⟨x16_1, rfl, HA, HK1, HB⟩ := hrel
          cases gk with
          | zero => exact absurd HA.out (by simp [sum_Open.l0])
          | succ k1 =>
            have H := HA.out
            clear HA
            simp only [sum_Open.l0] at H
            by_cases c9 : x16_1 < 4
            · rw [if_pos c9] at H
              have c9b0 : decide (x16_1 < 4) = true := decide_eq_true c9
              clear c9
              obtain ⟨ji10, hji10⟩ : ∃ j_ : Int, (wrap64 (ji3 + x16_1)) = j_ := ⟨_, rfl⟩
              replace H : (if 0 ≤ (ji10) then (if (ji10) < (l0.length : Int) then (if 0 ≤ (wrap64 (8 * x16_1)) then (if (rd l0 (ji10)) = ((shr .u32 t108 (wrap64 (8 * x16_1))) % 256) then (sum_Open.l0 k1 l0 ji3 t108 (wrap64 (x16_1 + 1))) else (some (([] : List Int), 10))) else (none)) else (none)) else (none)) = some (r1, r2) := by first | (rw [hji10] at H; exact H) | (simp only [hji10] at H ⊢; exact H)
              have hji10w : (IntKind.i64.wrap (ji3 + x16_1)) = ji10 := (i64_w _).trans hji10
              by_cases c11 : 0 ≤ (ji10)
              · rw [if_pos c11] at H
                have c11b0 : decide (0 ≤ (ji10)) = true := decide_eq_true c11
                clear c11
                by_cases c12 : (ji10) < (l0.length : Int)
                · rw [if_pos c12] at H
                  have c12b0 : decide ((ji10) < (l0.length : Int)) = true := decide_eq_true c12
                  clear c12
                  obtain ⟨ji13, hji13⟩ : ∃ j_ : Int, (wrap64 (8 * x16_1)) = j_ := ⟨_, rfl⟩
                  replace H : (if 0 ≤ (ji13) then (if (rd l0 (ji10)) = ((shr .u32 t108 (ji13)) % 256) then (sum_Open.l0 k1 l0 ji3 t108 (wrap64 (x16_1 + 1))) else (some (([] : List Int), 10))) else (none)) = some (r1, r2) := by first | (rw [hji13] at H; exact H) | (simp only [hji13] at H ⊢; exact H)
                  have hji13w : (IntKind.i64.wrap (8 * x16_1)) = ji13 := (i64_w _).trans hji13
                  by_cases c14 : 0 ≤ (ji13)
                  · rw [if_pos c14] at H
                    have c14b0 := eq_true c14
                    have c14b1 : decide (0 ≤ (ji13)) = true := decide_eq_true c14
                    clear c14
                    obtain ⟨ji15, hji15⟩ : ∃ j_ : Int, (shr .u32 t108 (ji13)) = j_ := ⟨_, rfl⟩
                    replace H : (if (rd l0 (ji10)) = ((ji15) % 256) then (sum_Open.l0 k1 l0 ji3 t108 (wrap64 (x16_1 + 1))) else (some (([] : List Int), 10))) = some (r1, r2) := by first | (rw [hji15] at H; exact H) | (simp only [hji15] at H ⊢; exact H)
                    have hji15_ : (t108 / 2 ^ min (ji13).toNat 32) = ji15 := hji15
                    have hji15z : (ji13) ≤ 32 → (t108 / 2 ^ (ji13).toNat) = ji15 := shr_small hji15
                    by_cases c16 : (rd l0 (ji10)) = ((ji15) % 256)
                    · rw [if_pos c16] at H
                      have c16b0 : ((rd l0 (ji10)) == ((ji15) % 256)) = true := beq_iff_eq.mpr c16
                      have c16b1 : ((rd l0 (ji10)) != ((ji15) % 256)) = false := bne_eq_false_iff_eq.mpr c16
                      clear c16
                      have H' := Aside0.mk H
                      clear H
                      have p109 : 0 ≤ ((ji10) : Int) := of_decide_eq_true (by first | (with_reducible assumption) | assumption)
                      have q109 : (ji10) < (l0.length : Int) := of_decide_eq_true (by first | (with_reducible assumption) | assumption)
                      obtain ⟨ad109, e109, hx109_0⟩ := Kd.at_int HR0.out (ji10) p109 q109
                      cases e109
                      replace hx109_0 := (HB.out.cell (World.block_lt_of_cell? w _ hx109_0)).trans hx109_0
                      replace p109 := eq_true p109
                      replace q109 := eq_true q109
                      go_wp2
                      repeat (go_quiet (fail); try go_wp2)
                      go_roundg k1
                      case measure => have := HK1.out; omega
                      case rel => exact ⟨(wrap64 (x16_1 + 1)), (by first | rfl | (simp; done) | (simp [*]; done)), H', ⟨by have := HK1.out; omega⟩, ⟨by repeat (first | (with_reducible first | exact HB.out | apply below_alloc | apply pw_below_drewN | apply below_drew1) | exact HB.out)⟩⟩
                    · rw [if_neg c16] at H
                      have c16b0 : ((rd l0 (ji10)) == ((ji15) % 256)) = false := beq_eq_false_iff_ne.mpr c16
                      have c16b1 : ((rd l0 (ji10)) != ((ji15) % 256)) = true := bne_iff_ne.mpr c16
                      simp only [Option.some.injEq, Prod.mk.injEq] at H
                      obtain ⟨rfl, rfl⟩ := H
                      have p109 : 0 ≤ ((ji10) : Int) := of_decide_eq_true (by first | (with_reducible assumption) | assumption)
                      have q109 : (ji10) < (l0.length : Int) := of_decide_eq_true (by first | (with_reducible assumption) | assumption)
                      obtain ⟨ad109, e109, hx109_0⟩ := Kd.at_int HR0.out (ji10) p109 q109
                      cases e109
                      replace hx109_0 := (HB.out.cell (World.block_lt_of_cell? w _ hx109_0)).trans hx109_0
                      replace p109 := eq_true p109
                      replace q109 := eq_true q109
                      go_wp2
                      repeat (go_quiet (fail); try go_wp2)
                      go_ret2
                      exact ⟨_, by first | rfl | (simp [errW_none, errW_some] <;> rfl) | (simp only [← hji3, ← hji10, ← hji13, ← hji15]; first | rfl | (simp [errW_none, errW_some] <;> rfl)) | (simp [*, errW_none, errW_some] <;> rfl), by first | exact Kd.R_nil _ _ _ _ _ | exact Kd.N_nil _ _ _ _ _ | exact Kd.V_nil _ _ _ _ _ | exact Kd.Q_nil _ _ _ _ _ | exact Kd.S_nil _ _ _ _ _, by repeat (first | (with_reducible first | exact HB.out | apply below_alloc | apply pw_below_drewN | apply below_drew1) | exact HB.out)⟩
                  · rw [if_neg c14] at H
                    exact absurd H (by simp)
                · rw [if_neg c12] at H
                  exact absurd H (by simp)
              · rw [if_neg c11] at H
                exact absurd H (by simp)
            · rw [if_neg c9] at H
              have c9b0 : decide (x16_1 < 4) = false := decide_eq_false c9
              clear c9
              obtain ⟨y110, hy110⟩ : ∃ y_ : List Int, y_ = (([] : List Int)) := ⟨_, rfl⟩
              replace H : (if 0 ≤ ji3 then (if ji3 ≤ (l0.length : Int) then (if y110.length + (l0.take (ji3 : Int).toNat).length < 140737488355328 then (some ((y110 ++ (l0.take (ji3 : Int).toNat)), 0)) else (none)) else (none)) else (none)) = some (r1, r2) := by first | (rw [hy110]; with_reducible exact H) | (have H2_ := (Option.bind_some _ _).symm.trans H; rw [hy110]; with_reducible exact H2_) | (have H2_ := (Option.bind_some _ _).symm.trans H; with_reducible exact H2_) | with_reducible exact H | (rw [hy110]; exact H) | exact H
              have Ny110 := Aside0.mk hy110
              clear hy110
              by_cases c17 : 0 ≤ ji3
              · rw [if_pos c17] at H
                have c17b0 := eq_true c17
                have c17b1 : decide (0 ≤ ji3) = true := decide_eq_true c17
                clear c17
                by_cases c18 : ji3 ≤ (l0.length : Int)
                · rw [if_pos c18] at H
                  have c18b0 := eq_true c18
                  have c18b1 : decide (ji3 ≤ (l0.length : Int)) = true := decide_eq_true c18
                  clear c18
                  by_cases c19 : y110.length + (l0.take (ji3 : Int).toNat).length < 140737488355328
                  · rw [if_pos c19] at H
                    have LMc19 := Aside0.mk c19
                    clear c19
                    obtain ⟨y114, hy114⟩ : ∃ y_ : List Int, y_ = (y110 ++ (l0.take (ji3 : Int).toNat)) := ⟨_, rfl⟩
                    replace H : (some (y114, 0)) = some (r1, r2) := by first | (rw [hy114]; with_reducible exact H) | (have H2_ := (Option.bind_some _ _).symm.trans H; rw [hy114]; with_reducible exact H2_) | (have H2_ := (Option.bind_some _ _).symm.trans H; with_reducible exact H2_) | with_reducible exact H | (rw [hy114]; exact H) | exact H
                    have Ny114 := Aside0.mk hy114
                    clear hy114
                    simp only [Option.some.injEq, Prod.mk.injEq] at H
                    obtain ⟨rfl, rfl⟩ := H
                    go_wp2_with (first | ((with_reducible refine gate_dst (N := 32) rfl ?_); refine Kd.R_lit (Kd.int .u8) _ 5 ?hg (N := 32) ?hd (xs := ([] : List Int)) (inner := []) (ok := fun _ => True) (okp := fun _ => True) ?hr ?hp (fun _ hk => hk) trivial (Below.refl _ _) (Nat.le_refl _) (by simp) ?_; (case hd => rfl); (case hg => rfl); (case hr => first | (go_simp; done) | (go_simp; rfl)); (case hp => exact (Reps.none _ _)); intro v111 w20 ho21 hb hg_ hnew_; clear hg_ hnew_; (first | rw [← Ny110.out] at ho21 | (simp only [Int.reduceToNat] at ho21; rw [← Ny110.out] at ho21)); have n0_ := Aside0.mk (Kd.R_lower ho21 (below_size (by repeat (first | (with_reducible first | exact HB.out | apply below_alloc | apply pw_below_drewN | apply below_drew1) | exact HB.out)))); have n1_ := Aside0.mk (below_step (by repeat (first | (with_reducible first | exact HB.out | apply below_alloc | apply pw_below_drewN | apply below_drew1) | exact HB.out)) hb); clear HB; have HO112 := n0_; have HB := n1_; clear n0_ n1_; clear hb ho21; obtain ⟨i022, hi022, _, hsz22, _⟩ := info_parts info5; obtain ⟨hcut22, hA22, hC22⟩ := print_take_of (P := Try.prog) (Value.int .u8) 0 22 5 .i64 Try.underlying22 hi022 hsz22 A0 c0 l0 ji3 (of_decide_eq_true (by first | (with_reducible assumption) | assumption)) (of_decide_eq_true (by first | (with_reducible assumption) | assumption)) HC0.out; have HR113 := Aside0.mk (Kd.C_of_reads (h1 := fun _ => rfl) (hA22 _ (Kd.reads_of_C HR0.out))); have HC113 := Aside0.mk hC22; clear hA22 hC22 hi022 hsz22; (try have HLHR113 := Aside0.mk (show ((l0.take (ji3 : Int).toNat).length : Int) = ji3 from by have h0_ : 0 ≤ ji3 := of_decide_eq_true (by first | (with_reducible assumption) | assumption); have h1_ : ji3 ≤ (l0.length : Int) := of_decide_eq_true (by first | (with_reducible assumption) | assumption); rw [List.length_take]; omega)); (try have HLHR113m := Aside0.mk (show ((l0.take (ji3 : Int).toNat).length : Int) = max ji3 0 from by have h2_ := HLHR113.out; omega))) | ((with_reducible refine gate_builtin (b := .append) (xs := #[.tmp 32, .tmp 35]) rfl ?_); at_builtin; refine Kd.R_append_rows (Kd.int .u8) (w0 := w) w.heap.size rfl (.tmp 32) (.tmp 35) 22 5 (.int .u8 0) 1 rfl Try.underlying22 info5 rfl (by decide) (by omega) v111 y110 (l0.take (ji3 : Int).toNat) _ _ _ (fun _ => True) (fun _ => False) rfl rfl ?aO ?aR (fun _ _ h => h) (fun _ h => h.elim) ?aF ?aB ?aS ?aL ?_; (case aR => first | (have h9_ := (Kd.C_below HR113.out HB.out); rw [show (l0.take (ji3 : Int).toNat).length = ji3.toNat from (by rw [List.length_take]; have h_ : (ji3 : Int) ≤ (l0.length : Int) := of_decide_eq_true (by first | (with_reducible assumption) | assumption); omega)] at h9_; exact h9_) | (rw [← show (l0.take (ji3 : Int).toNat).length = ji3.toNat from (by rw [List.length_take]; have h_ : (ji3 : Int) ≤ (l0.length : Int) := of_decide_eq_true (by first | (with_reducible assumption) | assumption); omega)]; repeat (first | exact (Kd.C_below HR113.out HB.out) | (with_reducible refine Kd.C_alloc ?_ _) | (with_reducible refine Kd.C_drewN ?_ _) | (with_reducible refine Kd.C_drew ?_))) | (repeat (first | exact (Kd.C_below HR113.out HB.out) | (with_reducible refine Kd.C_alloc ?_ _) | (with_reducible refine Kd.C_drewN ?_ _) | (with_reducible refine Kd.C_drew ?_)))); (case aB => exact (by repeat (first | (with_reducible first | exact HB.out | apply below_alloc | apply pw_below_drewN | apply below_drew1) | exact HB.out))); (case aF => exact (fun _ _ => trivial)); (case aO => exact (by (with_reducible repeat (first | apply Kd.R_alloc | apply Kd.R_drewN | apply Kd.R_drew)); exact HO112.out)); (case aS => exact (below_size (by repeat (first | (with_reducible first | exact HB.out | apply below_alloc | apply pw_below_drewN | apply below_drew1) | exact HB.out)))); (case aL => have := LMc19.out; have hlx_ := (show (l0.take (ji3 : Int).toNat).length = ji3.toNat from (by rw [List.length_take]; have h_ : (ji3 : Int) ≤ (l0.length : Int) := of_decide_eq_true (by first | (with_reducible assumption) | assumption); omega)); omega); intro v115 w23 ho hb hg hat; rw [← Ny114.out] at ho; have n0_ := Aside0.mk (hb); have n1_ := Aside0.mk (ho); clear HB; clear HO112; have HB := n0_; have HO116 := n1_; clear n0_ n1_; clear ho hb hg hat))
                    repeat (go_quiet (first | ((with_reducible refine gate_dst (N := 32) rfl ?_); refine Kd.R_lit (Kd.int .u8) _ 5 ?hg (N := 32) ?hd (xs := ([] : List Int)) (inner := []) (ok := fun _ => True) (okp := fun _ => True) ?hr ?hp (fun _ hk => hk) trivial (Below.refl _ _) (Nat.le_refl _) (by simp) ?_; (case hd => rfl); (case hg => rfl); (case hr => first | (go_simp; done) | (go_simp; rfl)); (case hp => exact (Reps.none _ _)); intro v111 w20 ho21 hb hg_ hnew_; clear hg_ hnew_; (first | rw [← Ny110.out] at ho21 | (simp only [Int.reduceToNat] at ho21; rw [← Ny110.out] at ho21)); have n0_ := Aside0.mk (Kd.R_lower ho21 (below_size (by repeat (first | (with_reducible first | exact HB.out | apply below_alloc | apply pw_below_drewN | apply below_drew1) | exact HB.out)))); have n1_ := Aside0.mk (below_step (by repeat (first | (with_reducible first | exact HB.out | apply below_alloc | apply pw_below_drewN | apply below_drew1) | exact HB.out)) hb); clear HB; have HO112 := n0_; have HB := n1_; clear n0_ n1_; clear hb ho21; obtain ⟨i022, hi022, _, hsz22, _⟩ := info_parts info5; obtain ⟨hcut22, hA22, hC22⟩ := print_take_of (P := Try.prog) (Value.int .u8) 0 22 5 .i64 Try.underlying22 hi022 hsz22 A0 c0 l0 ji3 (of_decide_eq_true (by first | (with_reducible assumption) | assumption)) (of_decide_eq_true (by first | (with_reducible assumption) | assumption)) HC0.out; have HR113 := Aside0.mk (Kd.C_of_reads (h1 := fun _ => rfl) (hA22 _ (Kd.reads_of_C HR0.out))); have HC113 := Aside0.mk hC22; clear hA22 hC22 hi022 hsz22; (try have HLHR113 := Aside0.mk (show ((l0.take (ji3 : Int).toNat).length : Int) = ji3 from by have h0_ : 0 ≤ ji3 := of_decide_eq_true (by first | (with_reducible assumption) | assumption); have h1_ : ji3 ≤ (l0.length : Int) := of_decide_eq_true (by first | (with_reducible assumption) | assumption); rw [List.length_take]; omega)); (try have HLHR113m := Aside0.mk (show ((l0.take (ji3 : Int).toNat).length : Int) = max ji3 0 from by have h2_ := HLHR113.out; omega))) | ((with_reducible refine gate_builtin (b := .append) (xs := #[.tmp 32, .tmp 35]) rfl ?_); at_builtin; refine Kd.R_append_rows (Kd.int .u8) (w0 := w) w.heap.size rfl (.tmp 32) (.tmp 35) 22 5 (.int .u8 0) 1 rfl Try.underlying22 info5 rfl (by decide) (by omega) v111 y110 (l0.take (ji3 : Int).toNat) _ _ _ (fun _ => True) (fun _ => False) rfl rfl ?aO ?aR (fun _ _ h => h) (fun _ h => h.elim) ?aF ?aB ?aS ?aL ?_; (case aR => first | (have h9_ := (Kd.C_below HR113.out HB.out); rw [show (l0.take (ji3 : Int).toNat).length = ji3.toNat from (by rw [List.length_take]; have h_ : (ji3 : Int) ≤ (l0.length : Int) := of_decide_eq_true (by first | (with_reducible assumption) | assumption); omega)] at h9_; exact h9_) | (rw [← show (l0.take (ji3 : Int).toNat).length = ji3.toNat from (by rw [List.length_take]; have h_ : (ji3 : Int) ≤ (l0.length : Int) := of_decide_eq_true (by first | (with_reducible assumption) | assumption); omega)]; repeat (first | exact (Kd.C_below HR113.out HB.out) | (with_reducible refine Kd.C_alloc ?_ _) | (with_reducible refine Kd.C_drewN ?_ _) | (with_reducible refine Kd.C_drew ?_))) | (repeat (first | exact (Kd.C_below HR113.out HB.out) | (with_reducible refine Kd.C_alloc ?_ _) | (with_reducible refine Kd.C_drewN ?_ _) | (with_reducible refine Kd.C_drew ?_)))); (case aB => exact (by repeat (first | (with_reducible first | exact HB.out | apply below_alloc | apply pw_below_drewN | apply below_drew1) | exact HB.out))); (case aF => exact (fun _ _ => trivial)); (case aO => exact (by (with_reducible repeat (first | apply Kd.R_alloc | apply Kd.R_drewN | apply Kd.R_drew)); exact HO112.out)); (case aS => exact (below_size (by repeat (first | (with_reducible first | exact HB.out | apply below_alloc | apply pw_below_drewN | apply below_drew1) | exact HB.out)))); (case aL => have := LMc19.out; have hlx_ := (show (l0.take (ji3 : Int).toNat).length = ji3.toNat from (by rw [List.length_take]; have h_ : (ji3 : Int) ≤ (l0.length : Int) := of_decide_eq_true (by first | (with_reducible assumption) | assumption); omega)); omega); intro v115 w23 ho hb hg hat; rw [← Ny114.out] at ho; have n0_ := Aside0.mk (hb); have n1_ := Aside0.mk (ho); clear HB; clear HO112; have HB := n0_; have HO116 := n1_; clear n0_ n1_; clear ho hb hg hat)); try go_wp2_with (first | ((with_reducible refine gate_dst (N := 32) rfl ?_); refine Kd.R_lit (Kd.int .u8) _ 5 ?hg (N := 32) ?hd (xs := ([] : List Int)) (inner := []) (ok := fun _ => True) (okp := fun _ => True) ?hr ?hp (fun _ hk => hk) trivial (Below.refl _ _) (Nat.le_refl _) (by simp) ?_; (case hd => rfl); (case hg => rfl); (case hr => first | (go_simp; done) | (go_simp; rfl)); (case hp => exact (Reps.none _ _)); intro v111 w20 ho21 hb hg_ hnew_; clear hg_ hnew_; (first | rw [← Ny110.out] at ho21 | (simp only [Int.reduceToNat] at ho21; rw [← Ny110.out] at ho21)); have n0_ := Aside0.mk (Kd.R_lower ho21 (below_size (by repeat (first | (with_reducible first | exact HB.out | apply below_alloc | apply pw_below_drewN | apply below_drew1) | exact HB.out)))); have n1_ := Aside0.mk (below_step (by repeat (first | (with_reducible first | exact HB.out | apply below_alloc | apply pw_below_drewN | apply below_drew1) | exact HB.out)) hb); clear HB; have HO112 := n0_; have HB := n1_; clear n0_ n1_; clear hb ho21; obtain ⟨i022, hi022, _, hsz22, _⟩ := info_parts info5; obtain ⟨hcut22, hA22, hC22⟩ := print_take_of (P := Try.prog) (Value.int .u8) 0 22 5 .i64 Try.underlying22 hi022 hsz22 A0 c0 l0 ji3 (of_decide_eq_true (by first | (with_reducible assumption) | assumption)) (of_decide_eq_true (by first | (with_reducible assumption) | assumption)) HC0.out; have HR113 := Aside0.mk (Kd.C_of_reads (h1 := fun _ => rfl) (hA22 _ (Kd.reads_of_C HR0.out))); have HC113 := Aside0.mk hC22; clear hA22 hC22 hi022 hsz22; (try have HLHR113 := Aside0.mk (show ((l0.take (ji3 : Int).toNat).length : Int) = ji3 from by have h0_ : 0 ≤ ji3 := of_decide_eq_true (by first | (with_reducible assumption) | assumption); have h1_ : ji3 ≤ (l0.length : Int) := of_decide_eq_true (by first | (with_reducible assumption) | assumption); rw [List.length_take]; omega)); (try have HLHR113m := Aside0.mk (show ((l0.take (ji3 : Int).toNat).length : Int) = max ji3 0 from by have h2_ := HLHR113.out; omega))) | ((with_reducible refine gate_builtin (b := .append) (xs := #[.tmp 32, .tmp 35]) rfl ?_); at_builtin; refine Kd.R_append_rows (Kd.int .u8) (w0 := w) w.heap.size rfl (.tmp 32) (.tmp 35) 22 5 (.int .u8 0) 1 rfl Try.underlying22 info5 rfl (by decide) (by omega) v111 y110 (l0.take (ji3 : Int).toNat) _ _ _ (fun _ => True) (fun _ => False) rfl rfl ?aO ?aR (fun _ _ h => h) (fun _ h => h.elim) ?aF ?aB ?aS ?aL ?_; (case aR => first | (have h9_ := (Kd.C_below HR113.out HB.out); rw [show (l0.take (ji3 : Int).toNat).length = ji3.toNat from (by rw [List.length_take]; have h_ : (ji3 : Int) ≤ (l0.length : Int) := of_decide_eq_true (by first | (with_reducible assumption) | assumption); omega)] at h9_; exact h9_) | (rw [← show (l0.take (ji3 : Int).toNat).length = ji3.toNat from (by rw [List.length_take]; have h_ : (ji3 : Int) ≤ (l0.length : Int) := of_decide_eq_true (by first | (with_reducible assumption) | assumption); omega)]; repeat (first | exact (Kd.C_below HR113.out HB.out) | (with_reducible refine Kd.C_alloc ?_ _) | (with_reducible refine Kd.C_drewN ?_ _) | (with_reducible refine Kd.C_drew ?_))) | (repeat (first | exact (Kd.C_below HR113.out HB.out) | (with_reducible refine Kd.C_alloc ?_ _) | (with_reducible refine Kd.C_drewN ?_ _) | (with_reducible refine Kd.C_drew ?_)))); (case aB => exact (by repeat (first | (with_reducible first | exact HB.out | apply below_alloc | apply pw_below_drewN | apply below_drew1) | exact HB.out))); (case aF => exact (fun _ _ => trivial)); (case aO => exact (by (with_reducible repeat (first | apply Kd.R_alloc | apply Kd.R_drewN | apply Kd.R_drew)); exact HO112.out)); (case aS => exact (below_size (by repeat (first | (with_reducible first | exact HB.out | apply below_alloc | apply pw_below_drewN | apply below_drew1) | exact HB.out)))); (case aL => have := LMc19.out; have hlx_ := (show (l0.take (ji3 : Int).toNat).length = ji3.toNat from (by rw [List.length_take]; have h_ : (ji3 : Int) ≤ (l0.length : Int) := of_decide_eq_true (by first | (with_reducible assumption) | assumption); omega)); omega); intro v115 w23 ho hb hg hat; rw [← Ny114.out] at ho; have n0_ := Aside0.mk (hb); have n1_ := Aside0.mk (ho); clear HB; clear HO112; have HB := n0_; have HO116 := n1_; clear n0_ n1_; clear ho hb hg hat)))
                    go_ret2
                    exact ⟨_, by first | rfl | (simp [errW_none, errW_some] <;> rfl) | (simp only [← hji3]; first | rfl | (simp [errW_none, errW_some] <;> rfl)) | (simp [*, errW_none, errW_some] <;> rfl), by (with_reducible repeat (first | apply Kd.R_alloc | apply Kd.R_drewN | apply Kd.R_drew)); exact HO116.out, by repeat (first | (with_reducible first | exact HB.out | apply below_alloc | apply pw_below_drewN | apply below_drew1) | exact HB.out)⟩
                  · rw [if_neg c19] at H
                    exact absurd H (by simp)
                · rw [if_neg c18] at H
                  exact absurd H (by simp)
              · rw [if_neg c17] at H
                exact absurd H (by simp)
      · rw [if_neg c5] at H
        exact absurd H (by simp)
    · rw [if_neg c4] at H
      exact absurd H (by simp)

/-! ### sum_Seal: function 14 -/
def sum_Seal.l0 : Nat → Int → List Int → Int → Option (List Int)
  | 0, _, _, _ => none
  | k + 1, x3, x4, x11 => if x11 < 4 then (if 0 ≤ (wrap64 (8 * x11)) then (if x4.length < 140737488355328 then (sum_Seal.l0 k x3 (x4 ++ [(shr .u32 x3 (wrap64 (8 * x11))) % 256]) (wrap64 (x11 + 1))) else (none)) else (none)) else (some x4)
def sum_Seal.f (k : Nat) (l0 : List Int) : Option (List Int) := (sum_Of.f l0).bind fun t117 => ((some (([] : List Int) : List Int)).bind fun y118 => (if y118.length + l0.length < 140737488355328 then (sum_Seal.l0 k t117 (y118 ++ l0) 0) else (none)))
theorem sum_Seal.mono_l : ∀ k, (∀ y0 y1 y2, LeO (sum_Seal.l0 k y0 y1 y2) (sum_Seal.l0 (k + 1) y0 y1 y2))
  | 0 => fun _ _ _ r h => by simp [sum_Seal.l0] at h
  | k + 1 => by
    have ih0 := sum_Seal.mono_l k
    · intro y0 y1 y2
      unfold sum_Seal.l0
      repeat' first
      | (with_reducible exact ih0 _ _ _)
      | (with_reducible exact LeO.refl _)
      | (with_reducible exact LeO.none _)
      | (with_reducible refine LeO.ite ?_ ?_)
      | (with_reducible refine LeO.bind ?_ (fun _ => ?_))
      | exact ih0 _ _ _
      | exact LeO.none _
      | refine LeO.ite ?_ ?_
      | refine LeO.bind ?_ (fun _ => ?_)
theorem sum_Seal.mono : ∀ a0 k, LeO (sum_Seal.f k a0) (sum_Seal.f (k + 1) a0) := by
  intro a0 k
  have ih0 := sum_Seal.mono_l k
  unfold sum_Seal.f
  repeat' first
      | (with_reducible exact ih0 _ _ _)
      | (with_reducible exact LeO.refl _)
      | (with_reducible exact LeO.none _)
      | (with_reducible refine LeO.ite ?_ ?_)
      | (with_reducible refine LeO.bind ?_ (fun _ => ?_))
      | exact ih0 _ _ _
      | exact LeO.none _
      | refine LeO.ite ?_ ?_
      | refine LeO.bind ?_ (fun _ => ?_)
set_option maxHeartbeats 8000000 in
set_option maxRecDepth 100000 in
theorem sum_Seal.calls (k : Nat) (A0 : Option Addr) (c0 : Nat) (l0 : List Int) (r : List Int) (w : World) (hr0 : Kd.C (Kd.int .u8) w A0 l0.length l0) (hc0 : l0.length ≤ c0) (h : sum_Seal.f k l0 = some r) :
    Calls Try.prog 14 #[.slice A0 l0.length c0] w fun e w' => ∃ v0_ : Value, e = .returned (v0_) ∧ Kd.R (Kd.int .u8) 5 w' w.heap.size (fun _ => True) v0_ r ∧ Below w.heap.size w w' := by
  have HR0 := Aside0.mk hr0
  have HC0 := Aside0.mk hc0
  clear hr0 hc0
  have HB := Aside0.mk (Below.refl w.heap.size w)
  have H : ((sum_Of.f l0).bind fun t117 => ((some (([] : List Int) : List Int)).bind fun y118 => (if y118.length + l0.length < 140737488355328 then (sum_Seal.l0 k t117 (y118 ++ l0) 0) else (none)))) = some r := h
  clear h
  replace H := Option.bind_eq_some_iff.mp H
  obtain ⟨t117, A20, H⟩ := H
  replace H : ((some (([] : List Int) : List Int)).bind fun y118 => (if y118.length + l0.length < 140737488355328 then (sum_Seal.l0 k t117 (y118 ++ l0) 0) else (none))) = some r := H
  have A2 := Aside0.mk A20
  clear A20
  obtain ⟨y118, hy118⟩ : ∃ y_ : List Int, y_ = (([] : List Int)) := ⟨_, rfl⟩
  replace H : (if y118.length + l0.length < 140737488355328 then (sum_Seal.l0 k t117 (y118 ++ l0) 0) else (none)) = some r := by first | (rw [hy118]; with_reducible exact H) | (have H2_ := (Option.bind_some _ _).symm.trans H; rw [hy118]; with_reducible exact H2_) | (have H2_ := (Option.bind_some _ _).symm.trans H; with_reducible exact H2_) | with_reducible exact H | (rw [hy118]; exact H) | exact H
  have Ny118 := Aside0.mk hy118
  clear hy118
  by_cases c3 : y118.length + l0.length < 140737488355328
  · rw [if_pos c3] at H
    have LMc3 := Aside0.mk c3
    clear c3
    obtain ⟨y121, hy121⟩ : ∃ y_ : List Int, y_ = (y118 ++ l0) := ⟨_, rfl⟩
    replace H : (sum_Seal.l0 k t117 y121 0) = some r := by first | (rw [hy121]; with_reducible exact H) | (have H2_ := (Option.bind_some _ _).symm.trans H; rw [hy121]; with_reducible exact H2_) | (have H2_ := (Option.bind_some _ _).symm.trans H; with_reducible exact H2_) | with_reducible exact H | (rw [hy121]; exact H) | exact H
    have Ny121 := Aside0.mk hy121
    clear hy121
    have H' := Aside0.mk H
    clear H
    go_enter Try.func14, Try.ntmps14
    go_wp2_with (first | ((with_reducible refine gate_callee (f := 17) rfl ?_); refine goesL_ (some 7) rfl rfl Try.func17 (by kernel_rfl) rfl #[.slice A0 l0.length c0] rfl (by (try simp only [List.map_toArray, List.map_cons, List.map_nil]); first | done | rfl | (simp only [List.length_drop, List.length_take]; rfl)) ?_; (with_reducible refine (sum_Of.calls _ _ l0 t117 _ ?side1 ?side2 A2.out).mono ?_); (case side1 => repeat (first | exact HR0.out | (with_reducible refine Kd.C_alloc ?_ _) | (with_reducible refine Kd.C_drewN ?_ _) | (with_reducible refine Kd.C_drew ?_))); (case side2 => exact HC0.out); rintro e w4 ⟨rfl, hb⟩; refine ⟨_, rfl, ?_⟩; have n0_ := Aside0.mk (below_step (by repeat (first | (with_reducible first | exact HB.out | apply below_alloc | apply pw_below_drewN | apply below_drew1) | exact HB.out)) hb); clear HB; have HB := n0_; clear n0_; (try clear hb); (try clear hb2); (try clear hk); (try clear hi)) | ((with_reducible refine gate_dst (N := 8) rfl ?_); refine Kd.R_lit (Kd.int .u8) _ 5 ?hg (N := 8) ?hd (xs := ([] : List Int)) (inner := []) (ok := fun _ => True) (okp := fun _ => True) ?hr ?hp (fun _ hk => hk) trivial (Below.refl _ _) (Nat.le_refl _) (by simp) ?_; (case hd => rfl); (case hg => rfl); (case hr => first | (go_simp; done) | (go_simp; rfl)); (case hp => exact (Reps.none _ _)); intro v119 w5 ho6 hb hg_ hnew_; clear hg_ hnew_; (first | rw [← Ny118.out] at ho6 | (simp only [Int.reduceToNat] at ho6; rw [← Ny118.out] at ho6)); have n0_ := Aside0.mk (Kd.R_lower ho6 (below_size (by repeat (first | (with_reducible first | exact HB.out | apply below_alloc | apply pw_below_drewN | apply below_drew1) | exact HB.out)))); have n1_ := Aside0.mk (below_step (by repeat (first | (with_reducible first | exact HB.out | apply below_alloc | apply pw_below_drewN | apply below_drew1) | exact HB.out)) hb); clear HB; have HO120 := n0_; have HB := n1_; clear n0_ n1_; clear hb ho6) | ((with_reducible refine gate_builtin (b := .append) (xs := #[.tmp 8, .tmp 9]) rfl ?_); at_builtin; refine Kd.R_append_rows (Kd.int .u8) (w0 := w) w.heap.size rfl (.tmp 8) (.tmp 9) 22 5 (.int .u8 0) 1 rfl Try.underlying22 info5 rfl (by decide) (by omega) v119 y118 l0 _ _ _ (fun _ => True) (fun _ => False) rfl rfl ?aO ?aR (fun _ _ h => h) (fun _ h => h.elim) ?aF ?aB ?aS ?aL ?_; (case aR => repeat (first | exact (Kd.C_below HR0.out HB.out) | (with_reducible refine Kd.C_alloc ?_ _) | (with_reducible refine Kd.C_drewN ?_ _) | (with_reducible refine Kd.C_drew ?_))); (case aB => exact (by repeat (first | (with_reducible first | exact HB.out | apply below_alloc | apply pw_below_drewN | apply below_drew1) | exact HB.out))); (case aF => exact (fun _ _ => trivial)); (case aO => exact (by (with_reducible repeat (first | apply Kd.R_alloc | apply Kd.R_drewN | apply Kd.R_drew)); exact HO120.out)); (case aS => exact (below_size (by repeat (first | (with_reducible first | exact HB.out | apply below_alloc | apply pw_below_drewN | apply below_drew1) | exact HB.out)))); (case aL => have := LMc3.out; omega); intro v122 w7 ho hb hg hat; rw [← Ny121.out] at ho; have n0_ := Aside0.mk (hb); have n1_ := Aside0.mk (ho); clear HB; clear HO120; have HB := n0_; have HO123 := n1_; clear n0_ n1_; clear ho hb hg hat))
    go_loopg [4, 11] k (fun kq v4 v11 w' => ∃ (x4_1 : List Int) (x11_1 : Int), v11 = .int .i64 x11_1 ∧ Aside0 (sum_Seal.l0 kq t117 x4_1 x11_1 = some r) ∧ Aside0 (kq ≤ k) ∧ Aside0 (Kd.R (Kd.int .u8) 5 w' w.heap.size (fun _ => True) v4 x4_1) ∧ Aside0 (Below w.heap.size w w'))
    case atStart => exact ⟨(y121), (0), (by first | rfl | (simp; done) | (simp [*]; done)), H', ⟨Nat.le_refl _⟩, ⟨by (with_reducible repeat (first | apply Kd.R_alloc | apply Kd.R_drewN | apply Kd.R_drew)); exact HO123.out⟩, ⟨by repeat (first | (with_reducible first | exact HB.out | apply below_alloc | apply pw_below_drewN | apply below_drew1) | exact HB.out)⟩⟩
    case round =>
      clear H'
      try clear c1
      try clear p2
      try clear c3
      obtain ⟨x4_1, x11_1, rfl, HA, HK1, HO_4, HB⟩ := hrel
      cases gk with
      | zero => exact absurd HA.out (by simp [sum_Seal.l0])
      | succ k1 =>
        have H := HA.out
        clear HA
        simp only [sum_Seal.l0] at H
        by_cases c8 : x11_1 < 4
        · rw [if_pos c8] at H
          have c8b0 : decide (x11_1 < 4) = true := decide_eq_true c8
          clear c8
          obtain ⟨ji9, hji9⟩ : ∃ j_ : Int, (wrap64 (8 * x11_1)) = j_ := ⟨_, rfl⟩
          replace H : (if 0 ≤ (ji9) then (if x4_1.length < 140737488355328 then (sum_Seal.l0 k1 t117 (x4_1 ++ [(shr .u32 t117 (ji9)) % 256]) (wrap64 (x11_1 + 1))) else (none)) else (none)) = some r := by first | (rw [hji9] at H; exact H) | (simp only [hji9] at H ⊢; exact H)
          have hji9w : (IntKind.i64.wrap (8 * x11_1)) = ji9 := (i64_w _).trans hji9
          by_cases c10 : 0 ≤ (ji9)
          · rw [if_pos c10] at H
            have c10b0 := eq_true c10
            have c10b1 : decide (0 ≤ (ji9)) = true := decide_eq_true c10
            clear c10
            obtain ⟨ji11, hji11⟩ : ∃ j_ : Int, (shr .u32 t117 (ji9)) = j_ := ⟨_, rfl⟩
            replace H : (if x4_1.length < 140737488355328 then (sum_Seal.l0 k1 t117 (x4_1 ++ [(ji11) % 256]) (wrap64 (x11_1 + 1))) else (none)) = some r := by first | (rw [hji11] at H; exact H) | (simp only [hji11] at H ⊢; exact H)
            have hji11_ : (t117 / 2 ^ min (ji9).toNat 32) = ji11 := hji11
            have hji11z : (ji9) ≤ 32 → (t117 / 2 ^ (ji9).toNat) = ji11 := shr_small hji11
            by_cases c12 : x4_1.length < 140737488355328
            · rw [if_pos c12] at H
              have LMc12 := Aside0.mk c12
              clear c12
              obtain ⟨y124, hy124⟩ : ∃ y_ : List Int, y_ = (x4_1 ++ [(ji11) % 256]) := ⟨_, rfl⟩
              replace H : (sum_Seal.l0 k1 t117 y124 (wrap64 (x11_1 + 1))) = some r := by first | (rw [hy124]; with_reducible exact H) | (have H2_ := (Option.bind_some _ _).symm.trans H; rw [hy124]; with_reducible exact H2_) | (have H2_ := (Option.bind_some _ _).symm.trans H; with_reducible exact H2_) | with_reducible exact H | (rw [hy124]; exact H) | exact H
              have Ny124 := Aside0.mk hy124
              clear hy124
              have H' := Aside0.mk H
              clear H
              go_wp2_with (first | ((with_reducible refine gate_builtin (b := .append) (xs := #[.tmp 14, .tmp 20]) rfl ?_); at_builtin; refine Kd.R_append (Kd.int .u8) (w0 := w) w.heap.size rfl (.tmp 14) (.tmp 20) 22 5 (.int .u8 0) 1 rfl Try.underlying22 info5 rfl (by decide) (by omega) u4 x4_1 ((ji11) % 256) [.int .u8 ((ji11) % 256)] (fun _ => True) (fun _ => False) rfl rfl ?aP (fun _ hk => hk.elim) ?aF ?aO ?aB ?aS ?aL ?_; (case aP => exact rfl); (case aB => exact (by repeat (first | (with_reducible first | exact HB.out | apply below_alloc | apply pw_below_drewN | apply below_drew1) | exact HB.out))); (case aF => exact (fun _ _ => trivial)); (case aO => exact (by (with_reducible repeat (first | apply Kd.R_alloc | apply Kd.R_drewN | apply Kd.R_drew)); exact HO_4.out)); (case aS => exact (below_size (by repeat (first | (with_reducible first | exact HB.out | apply below_alloc | apply pw_below_drewN | apply below_drew1) | exact HB.out)))); (case aL => have := LMc12.out; omega); intro v125 w13 ho hb hg hat; rw [← Ny124.out] at ho; have n0_ := Aside0.mk (hb); have n1_ := Aside0.mk (ho); clear HB; clear HO_4; have HB := n0_; have HO126 := n1_; clear n0_ n1_; clear ho hb hg hat))
              go_roundg k1
              case measure => have := HK1.out; omega
              case rel => exact ⟨(y124), (wrap64 (x11_1 + 1)), (by first | rfl | (simp; done) | (simp [*]; done)), H', ⟨by have := HK1.out; omega⟩, ⟨by (with_reducible repeat (first | apply Kd.R_alloc | apply Kd.R_drewN | apply Kd.R_drew)); exact HO126.out⟩, ⟨by repeat (first | (with_reducible first | exact HB.out | apply below_alloc | apply pw_below_drewN | apply below_drew1) | exact HB.out)⟩⟩
            · rw [if_neg c12] at H
              exact absurd H (by simp)
          · rw [if_neg c10] at H
            exact absurd H (by simp)
        · rw [if_neg c8] at H
          have c8b0 : decide (x11_1 < 4) = false := decide_eq_false c8
          clear c8
          obtain rfl := Option.some.inj H
          go_wp2
          go_ret
          exact ⟨_, by first | rfl | (simp [errW_none, errW_some] <;> rfl) | (simp [*, errW_none, errW_some] <;> rfl), by (with_reducible repeat (first | apply Kd.R_alloc | apply Kd.R_drewN | apply Kd.R_drew)); exact HO_4.out, by repeat (first | (with_reducible first | exact HB.out | apply below_alloc | apply pw_below_drewN | apply below_drew1) | exact HB.out)⟩
  · rw [if_neg c3] at H
    exact absurd H (by simp)

-- NOT PRINTED: function 33 (sum_grid_of)

-- NOT PRINTED: function 32 (sum_grid_twice)

end Go.Proofs.Ythpclknekfjnkaa.PSumBursts
