/- Written for the statement SumJoins over the program's printed functions: numbers and lists alone. -/
import Derived.Test.YthpclknekfjnkaaPSumJoinsx
set_option linter.unusedVariables false
set_option linter.unusedSimpArgs false
namespace Go.Proofs.Ythpclknekfjnkaa.Pure
open Go.RowKit Go.Proofs.Ythpclknekfjnkaa.PSumJoins Go.Proofs.YthpclknekfjnkaaW Go.Proofs.YthpclknekfjnkaaW.PrintWords Go.Proofs.YthpclknekfjnkaaW.PrintLast Go.Proofs.YthpclknekfjnkaaW.PrintMore

theorem wrap64_id {x : Int} (h0 : -9223372036854775808 ≤ x) (h1 : x ≤ 9223372036854775807) : wrap64 x = x := by unfold wrap64; omega
theorem wu64 (n : Int) : IntKind.u64.wrap n = n % 18446744073709551616 := by simp [IntKind.wrap, IntKind.bits, IntKind.signed]
theorem wraps_u64 (n : Int) (h0 : 0 ≤ n) (h1 : n < 2 ^ 64) : IntKind.u64.wrap n = n := by rw [wu64]; omega
theorem u64_and127 {x : Int} (h0 : 0 ≤ x) (h1 : x < 18446744073709551616) : Go.bits .and .u64 x 127 = x % 128 := Go.bits_mask .u64 64 (by decide) wraps_u64 7 (by decide) x h0 h1
theorem u8_and127 {x : Int} (h0 : 0 ≤ x) (h1 : x < 256) : Go.bits .and .u8 x 127 = x % 128 := Go.bits_mask .u8 8 (by decide) Go.wraps_u8 7 (by decide) x h0 h1
theorem bits_comm_or (k : IntKind) (x y : Int) : Go.bits .or k x y = Go.bits .or k y x := by simp [Go.bits, BitVec.or_comm]
theorem u8_or_128 {x : Int} (h0 : 0 ≤ x) (h1 : x < 128) : Go.bits .or .u8 x 128 = x + 128 := by
  rw [bits_comm_or, Go.bits_join .u8 8 (by decide) Go.wraps_u8 7 128 x (by decide) (by decide) (by decide) h0 h1 (by omega)]; omega
theorem u64_join (i : Nat) {x y : Int} (hx0 : 0 ≤ x) (hx : x % 2 ^ i = 0) (hx1 : x < 18446744073709551616) (hy0 : 0 ≤ y) (hy : y < 2 ^ i) (hy1 : y < 18446744073709551616) : Go.bits .or .u64 x y = x + y :=
  Go.bits_join .u64 64 (by decide) wraps_u64 i x y hx0 hx hx1 hy0 hy hy1
theorem wf_u64 {x : Int} (h : (Lit.int .u64 x).wf = true) : 0 ≤ x ∧ x < 18446744073709551616 := by
  simp [Lit.wf, IntKind.min, IntKind.max, IntKind.bits, IntKind.signed] at h; omega
theorem wf_u8 {x : Int} (h : (Lit.int .u8 x).wf = true) : 0 ≤ x ∧ x < 256 := by
  simp [Lit.wf, IntKind.min, IntKind.max, IntKind.bits, IntKind.signed] at h; omega
theorem wf_i64 {x : Int} (h : (Lit.int .i64 x).wf = true) : -9223372036854775808 ≤ x ∧ x ≤ 9223372036854775807 := by
  simp [Lit.wf, IntKind.min, IntKind.max, IntKind.bits, IntKind.signed] at h; omega
def Byt (l : List Int) : Prop := ∀ x ∈ l, 0 ≤ x ∧ x < 256
theorem Byt.of_wf {l : List Int} (h : ∀ x ∈ l, (Lit.int .u8 x).wf = true) : Byt l := fun x hx => wf_u8 (h x hx)
theorem Byt.rd {l : List Int} (h : Byt l) (i : Int) : 0 ≤ rd l i ∧ rd l i < 256 := by
  unfold PrintWords.rd
  rw [List.getD_eq_getElem?_getD]
  cases e : l[i.toNat]? with
  | none => simp
  | some x => exact h x (List.mem_of_getElem? e)
theorem Byt.take {l : List Int} (h : Byt l) (n : Nat) : Byt (l.take n) := fun x hx => h x (List.mem_of_mem_take hx)
theorem Byt.drop {l : List Int} (h : Byt l) (n : Nat) : Byt (l.drop n) := fun x hx => h x (List.mem_of_mem_drop hx)
theorem rd_nat (l : List Int) (i : Nat) : rd l (i : Int) = l.getD i 0 := by unfold PrintWords.rd; simp
theorem rd_drop {l : List Int} {i : Nat} (h : i < l.length) : l.drop i = rd l (i : Int) :: l.drop (i + 1) := by
  rw [rd_nat, List.drop_eq_getElem_cons h]; simp [List.getD_eq_getElem?_getD, List.getElem?_eq_getElem h]

theorem u32of {n : Nat} (h : n < 2 ^ 32) : (BitVec.ofInt 32 (n : Int)).toNat = n := by
  rw [BitVec.toNat_ofInt, show ((n : Int) % ((2 ^ 32 : Nat) : Int)).toNat = n by omega]
theorem u32x {a b : Nat} (ha : a < 2 ^ 32) (hb : b < 2 ^ 32) : Go.bits .xor .u32 (a : Int) (b : Int) = ((a ^^^ b : Nat) : Int) := by
  have e : (BitVec.ofInt 32 (a : Int) ^^^ BitVec.ofInt 32 (b : Int)).toNat = a ^^^ b := by rw [BitVec.toNat_xor, u32of ha, u32of hb]
  show IntKind.u32.wrap ((BitVec.ofInt 32 (a : Int) ^^^ BitVec.ofInt 32 (b : Int)).toNat : Int) = _
  rw [e, show IntKind.u32.wrap ((a ^^^ b : Nat) : Int) = ((a ^^^ b : Nat) : Int) % 4294967296 by simp [IntKind.wrap, IntKind.bits, IntKind.signed]]
  have := Nat.xor_lt_two_pow ha hb
  omega
theorem wf_u32 {x : Int} (h : (Lit.int .u32 x).wf = true) : 0 ≤ x ∧ x < 4294967296 := by
  simp [Lit.wf, IntKind.min, IntKind.max, IntKind.bits, IntKind.signed] at h; omega
def fullN : Nat := 4294967295
theorem u32ok_of {n : Nat} (h : n < 2 ^ 32) : u32ok (n : Int) = true := by
  simp only [u32ok, Bool.and_eq_true, decide_eq_true_eq]
  omega
theorem bytesOk_of {l : List Int} (h : Byt l) : bytesOk l = true := List.all_eq_true.2 fun x hx => by
  have := h x hx
  simp only [Bool.and_eq_true, decide_eq_true_eq]
  omega
theorem feedN_lt : ∀ (l : List Int) (c : Nat), c < 2 ^ 32 → Byt l → feedN c l < 2 ^ 32
  | [], _, h, _ => h
  | x :: xs, c, h, hb => feedN_lt xs _ (inb_lt h (by have := hb x (List.mem_cons_self ..); omega)) (fun y hy => hb y (List.mem_cons_of_mem _ hy))
theorem feedN_app : ∀ (a b : List Int) (c : Nat), feedN c (a ++ b) = feedN (feedN c a) b
  | [], _, _ => rfl
  | x :: xs, b, c => feedN_app xs b _
theorem feed_some {l : List Int} (hb : Byt l) {c : Nat} (h : c < 2 ^ 32) : sum_feed.f (c : Int) l = some ((feedN c l : Nat) : Int) := by
  unfold sum_feed.f
  rw [if_pos (by rw [u32ok_of h, bytesOk_of hb]; rfl), Int.toNat_natCast]
def moreN (c : Nat) (l : List Int) : Nat := feedN (c ^^^ fullN) l ^^^ fullN
def ofN (l : List Int) : Nat := moreN 0 l
theorem full_lt : fullN < 2 ^ 32 := by decide
theorem moreN_lt {l : List Int} (hb : Byt l) {c : Nat} (h : c < 2 ^ 32) : moreN c l < 2 ^ 32 := Nat.xor_lt_two_pow (feedN_lt l _ (Nat.xor_lt_two_pow h full_lt) hb) full_lt
theorem xor_full {c : Nat} (h : c < 2 ^ 32) : Go.bits .xor .u32 4294967295 (c : Int) = ((c ^^^ fullN : Nat) : Int) := by
  rw [Nat.xor_comm]
  exact u32x full_lt h
theorem xor_full' {c : Nat} (h : c < 2 ^ 32) : Go.bits .xor .u32 (c : Int) 4294967295 = ((c ^^^ fullN : Nat) : Int) := u32x h full_lt
theorem of_some {l : List Int} (hb : Byt l) : sum_Of.f l = some ((ofN l : Nat) : Int) := by
  unfold sum_Of.f
  rw [show (4294967295 : Int) = ((fullN : Nat) : Int) from rfl, feed_some hb full_lt, Option.bind_some]
  refine congrArg some ?_
  refine (xor_full (feedN_lt l fullN full_lt hb)).trans ?_
  unfold ofN moreN
  rw [Nat.zero_xor]
theorem ofN_lt {l : List Int} (hb : Byt l) : ofN l < 2 ^ 32 := moreN_lt hb (by decide)
theorem u32_nat {x : Int} (h : 0 ≤ x ∧ x < 4294967296) : ∃ n : Nat, x = (n : Int) ∧ n < 2 ^ 32 := ⟨x.toNat, by omega, by omega⟩
theorem awake01 : Ev (fun _ => lienlaw01_awake.f) true := Ev.now true

theorem step_some {c : Nat} (h : c < 2 ^ 32) : lienref01_step.f (c : Int) = some ((st c : Nat) : Int) := by
  unfold lienref01_step.f
  have w1 : Int.tmod (c : Int) 2 = ((c % 2 : Nat) : Int) := by rw [Int.tmod_eq_emod_of_nonneg (by omega)]; omega
  have w2 : Int.tdiv (c : Int) 2 % 4294967296 = ((c / 2 : Nat) : Int) := by rw [Int.tdiv_eq_ediv_of_nonneg (by omega)]; omega
  rw [w1, w2]
  unfold st
  by_cases e : c % 2 = 1
  · rw [if_pos (by omega), if_pos e]
    exact congrArg some (u32x (a := c / 2) (b := crcP) (by omega) (by decide))
  · rw [if_neg (by omega), if_neg e]
theorem ref_in_l0 : ∀ (d i : Nat) (c : Nat), c < 2 ^ 32 → i + d = 8 → ∀ k, d + 1 ≤ k → lienref01_in.l0 k (c : Int) (i : Int) = some ((stn d c : Nat) : Int)
  | 0, i, c, h, hi, k, hk => by
    obtain ⟨k, rfl⟩ : ∃ m, k = m + 1 := ⟨k - 1, by omega⟩
    rw [lienref01_in.l0, if_neg (by omega)]
    rfl
  | d + 1, i, c, h, hi, k, hk => by
    obtain ⟨k, rfl⟩ : ∃ m, k = m + 1 := ⟨k - 1, by omega⟩
    rw [lienref01_in.l0, if_pos (by omega), step_some h, Option.bind_some, wrap64_id (by omega) (by omega), show ((i : Int) + 1) = ((i + 1 : Nat) : Int) by omega]
    exact ref_in_l0 d (i + 1) (st c) (st_lt h) (by omega) k (by omega)
theorem ref_in_at {c x : Nat} (h : c < 2 ^ 32) (hx : x < 256) (k : Nat) (hk : 9 ≤ k) : lienref01_in.f k (c : Int) (x : Int) = some ((inb c x : Nat) : Int) := by
  unfold lienref01_in.f
  rw [show (x : Int) % 4294967296 = (x : Int) by omega, u32x h (by omega)]
  exact ref_in_l0 8 0 _ (Nat.xor_lt_two_pow h (by omega)) rfl k hk
theorem ref_in_ev {c x : Nat} (h : c < 2 ^ 32) (hx : x < 256) : Ev (fun k => lienref01_in.f k (c : Int) (x : Int)) ((inb c x : Nat) : Int) := ⟨9, fun k hk => ref_in_at h hx k hk⟩

theorem xor_cancel (a b : Nat) : a ^^^ b ^^^ b = a := by rw [Nat.xor_assoc, Nat.xor_self, Nat.xor_zero]
theorem feedN_lin : ∀ (l : List Int) (a c : Nat), feedN (a ^^^ c) l = stn (8 * l.length) a ^^^ feedN c l
  | [], _, _ => rfl
  | x :: xs, a, c => by
    have e : inb (a ^^^ c) x.toNat = stn 8 a ^^^ inb c x.toNat := by unfold inb; rw [Nat.xor_assoc, stn_lin]
    show feedN (inb (a ^^^ c) x.toNat) xs = stn (8 * (xs.length + 1)) a ^^^ feedN (inb c x.toNat) xs
    rw [e, feedN_lin xs, show 8 * (xs.length + 1) = 8 + 8 * xs.length by omega, stn_add]
theorem length_id {n : Int} (h0 : 0 ≤ n) (h1 : n ≤ 1048576) : sum_length.f n = some n := by
  unfold sum_length.f mn mx
  by_cases c : n < 0
  · omega
  · rw [if_neg c, if_neg (by omega)]
theorem zeros_some {c : Nat} (h : c < 2 ^ 32) {n : Nat} (hn : n ≤ 1048576) : sum_zeros.f (c : Int) (n : Int) = some ((stn (8 * n) c : Nat) : Int) := by
  unfold sum_zeros.f
  rw [if_pos (by rw [u32ok_of h, decide_eq_true (show (0 : Int) ≤ (n : Int) ∧ (n : Int) ≤ 1048576 by omega)]; rfl), Int.toNat_natCast, Int.toNat_natCast]
theorem join_some {c d : Nat} (hc : c < 2 ^ 32) (hd : d < 2 ^ 32) {n : Nat} (hn : n ≤ 1048576) : sum_Join.f (c : Int) (d : Int) (n : Int) = some ((stn (8 * n) c ^^^ d : Nat) : Int) := by
  unfold sum_Join.f
  rw [length_id (by omega) (by omega), Option.bind_some, zeros_some hc hn, Option.bind_some]
  exact congrArg some (u32x (stn_lt _ hc) hd)

def lenN (n : Int) : Nat := (mn (mx n 0) 1048576).toNat
theorem lenN_le (n : Int) : lenN n ≤ 1048576 := by
  unfold lenN mn mx
  split <;> split <;> omega
theorem length_some (n : Int) : sum_length.f n = some (lenN n : Int) := by
  unfold sum_length.f lenN
  refine congrArg some ?_
  unfold mn mx
  split <;> split <;> omega
theorem lenN_id (n : Nat) (h : n ≤ 3000) : lenN (n : Int) = n := by
  unfold lenN mn mx
  split <;> split <;> omega
theorem join_any {c d : Nat} (hc : c < 2 ^ 32) (hd : d < 2 ^ 32) (n : Int) : sum_Join.f (c : Int) (d : Int) n = some ((stn (8 * lenN n) c ^^^ d : Nat) : Int) := by
  unfold sum_Join.f
  rw [length_some, Option.bind_some, zeros_some hc (lenN_le n), Option.bind_some]
  exact congrArg some (u32x (stn_lt _ hc) hd)
theorem shl_bit (q : Int) (h0 : 0 ≤ q) (h1 : q < 8) : shl .u8 1 q = ((2 ^ q.toNat : Nat) : Int) := by
  obtain ⟨j, rfl⟩ : ∃ j : Nat, q = (j : Int) := ⟨q.toNat, by omega⟩
  have h8 : j = 0 ∨ j = 1 ∨ j = 2 ∨ j = 3 ∨ j = 4 ∨ j = 5 ∨ j = 6 ∨ j = 7 := by omega
  rcases h8 with rfl | rfl | rfl | rfl | rfl | rfl | rfl | rfl <;> decide
theorem pow_byte {j : Nat} (h : j < 8) : 2 ^ j < 256 := Nat.pow_lt_pow_right (show 1 < 2 by decide) (show j < 8 from h)
/-- By what a turned bit turns the sum of n bytes. -/
def bentN (n b : Nat) : Nat := stn (8 * (n - b / 8)) (2 ^ (b % 8))
theorem bentN_eq (n b : Nat) (h : b < 8 * n) : stn (8 * (n - 1 - b / 8)) (inb 0 (2 ^ (b % 8))) = bentN n b := by
  unfold bentN inb
  rw [Nat.zero_xor, ← stn_add, show 8 + 8 * (n - 1 - b / 8) = 8 * (n - b / 8) by omega]
def bentAll (n bit : Int) : Nat := if bit < 0 then 0 else if bit ≥ 8 * (lenN n : Int) then 0 else bentN (lenN n) bit.toNat
theorem bent_ev (n bit : Int) (hb0 : -9223372036854775808 ≤ bit) (hb1 : bit ≤ 9223372036854775807) : Ev (fun k => sum_Bent.f k n bit) ((bentAll n bit : Nat) : Int) := by
  have hL := lenN_le n
  unfold sum_Bent.f bentAll
  simp only [length_some, Option.bind_some]
  rw [wrap64_id (x := 8 * (lenN n : Int)) (by omega) (by omega)]
  by_cases c1 : bit < 0
  · simp only [if_pos c1]
    refine Ev.step (fun k => by rw [sum_Bent.j0]) ?_
    simp only [if_true]
    exact Ev.now _
  · by_cases c2 : bit ≥ 8 * (lenN n : Int)
    · simp only [if_neg c1, if_pos c2, decide_eq_true c2]
      refine Ev.step (fun k => by rw [sum_Bent.j0]) ?_
      simp only [if_true]
      exact Ev.now _
    · simp only [if_neg c1, if_neg c2, decide_eq_false c2]
      obtain ⟨b, rfl⟩ : ∃ b : Nat, bit = (b : Int) := ⟨bit.toNat, by omega⟩
      have hb : b < 8 * lenN n := by omega
      have w1 : Int.tmod (b : Int) 8 = ((b % 8 : Nat) : Int) := by rw [Int.tmod_eq_emod_of_nonneg (by omega)]; omega
      have w2 : Int.tdiv (b : Int) 8 = ((b / 8 : Nat) : Int) := by rw [Int.tdiv_eq_ediv_of_nonneg (by omega)]; omega
      have w3 : wrap64 (wrap64 ((lenN n : Int) - 1) - wrap64 ((b / 8 : Nat) : Int)) = ((lenN n - 1 - b / 8 : Nat) : Int) := by
        rw [wrap64_id (x := (lenN n : Int) - 1) (by omega) (by omega), wrap64_id (x := ((b / 8 : Nat) : Int)) (by omega) (by omega), wrap64_id (by omega) (by omega)]
        omega
      have hp := pow_byte (show b % 8 < 8 by omega)
      have f1 : sum_feed.f 0 [((2 ^ (b % 8) : Nat) : Int)] = some ((inb 0 (2 ^ (b % 8)) : Nat) : Int) :=
        feed_some (l := [((2 ^ (b % 8) : Nat) : Int)]) (c := 0) (fun x hx => by rw [List.mem_singleton.1 hx]; exact ⟨Int.natCast_nonneg _, Int.ofNat_lt.2 hp⟩) (by decide)
      have z : sum_zeros.f ((inb 0 (2 ^ (b % 8)) : Nat) : Int) ((lenN n - 1 - b / 8 : Nat) : Int) = some ((bentN (lenN n) b : Nat) : Int) := by
        rw [zeros_some (inb_lt (c := 0) (by decide) hp) (by omega), bentN_eq (lenN n) b hb]
      have e : ∀ x : Nat, sum_Bent.j0 (x + 1) (lenN n : Int) (b : Int) false = some ((bentN (lenN n) b : Nat) : Int) := fun x => by
        rw [sum_Bent.j0, if_neg (by decide), w1, w2, w3, if_pos (by omega), shl_bit ((b % 8 : Nat) : Int) (by omega) (by omega), Int.toNat_natCast, f1, Option.bind_some, z, Option.bind_some]
      exact ⟨1, fun k hk => by
        obtain ⟨x, rfl⟩ : ∃ x, k = x + 1 := ⟨k - 1, by omega⟩
        exact e x⟩
theorem bentN_lt (n b : Nat) : bentN n b < 2 ^ 32 := stn_lt _ (by have := pow_byte (show b % 8 < 8 by omega); omega)

theorem ref_length_some (n : Int) : lienref01_Length.f n = some (lenN n : Int) := length_some n
theorem inb_zero (c : Nat) : inb c 0 = stn 8 c := by unfold inb; rw [Nat.xor_zero]
theorem ref_Join_l0 (n : Int) (e : Nat) (he : e < 2 ^ 32) : ∀ (d i c : Nat), c < 2 ^ 32 → i + d = lenN n → Ev (fun k => lienref01_Join.l0 k (c : Int) (e : Int) n (i : Int)) ((stn (8 * d) c ^^^ e : Nat) : Int)
  | 0, i, c, hc, hi => by
    refine Ev.step (fun k => by rw [lienref01_Join.l0]) ?_
    simp only [ref_length_some, Option.bind_some, if_neg (show ¬ (i : Int) < (lenN n : Int) by omega)]
    rw [u32x hc he]
    exact Ev.now _
  | d + 1, i, c, hc, hi => by
    have hL := lenN_le n
    refine Ev.step (fun k => by rw [lienref01_Join.l0]) ?_
    simp only [ref_length_some, Option.bind_some, if_pos (show (i : Int) < (lenN n : Int) by omega)]
    refine Ev.bind (ref_in_ev (x := 0) hc (by decide)) ?_
    rw [show wrap64 ((i : Int) + 1) = ((i + 1 : Nat) : Int) by rw [wrap64_id (by omega) (by omega)]; omega, inb_zero, show 8 * (d + 1) = 8 + 8 * d by omega, stn_add]
    exact ref_Join_l0 n e he d (i + 1) (stn 8 c) (stn_lt 8 hc) (by omega)
theorem ref_Join_ev {c d : Nat} (hc : c < 2 ^ 32) (hd : d < 2 ^ 32) (n : Int) : Ev (fun k => lienref01_Join.f k (c : Int) (d : Int) n) ((stn (8 * lenN n) c ^^^ d : Nat) : Int) := ref_Join_l0 n d hd (lenN n) 0 c hc (by omega)
theorem ref_Bent_l0 (L : Nat) (hL : L ≤ 1048576) : ∀ (d i c : Nat), c < 2 ^ 32 → i + d = L → Ev (fun k => lienref01_Bent.l0 k (L : Int) (c : Int) (i : Int)) ((stn (8 * d) c : Nat) : Int)
  | 0, i, c, hc, hi => by
    refine Ev.step (fun k => by rw [lienref01_Bent.l0]) ?_
    simp only [if_neg (show ¬ (i : Int) < (L : Int) by omega)]
    exact Ev.now _
  | d + 1, i, c, hc, hi => by
    refine Ev.step (fun k => by rw [lienref01_Bent.l0]) ?_
    simp only [if_pos (show (i : Int) < (L : Int) by omega)]
    refine Ev.bind (ref_in_ev (x := 0) hc (by decide)) ?_
    rw [show wrap64 ((i : Int) + 1) = ((i + 1 : Nat) : Int) by rw [wrap64_id (by omega) (by omega)]; omega, inb_zero, show 8 * (d + 1) = 8 + 8 * d by omega, stn_add]
    exact ref_Bent_l0 L hL d (i + 1) (stn 8 c) (stn_lt 8 hc) (by omega)
theorem ref_bent_ev (n bit : Int) (hb0 : -9223372036854775808 ≤ bit) (hb1 : bit ≤ 9223372036854775807) : Ev (fun k => lienref01_Bent.f k n bit) ((bentAll n bit : Nat) : Int) := by
  have hL := lenN_le n
  unfold lienref01_Bent.f bentAll
  simp only [ref_length_some, Option.bind_some]
  rw [wrap64_id (x := 8 * (lenN n : Int)) (by omega) (by omega)]
  by_cases c1 : bit < 0
  · simp only [if_pos c1]
    refine Ev.step (fun k => by rw [lienref01_Bent.j0]) ?_
    simp only [if_true]
    exact Ev.now _
  · by_cases c2 : bit ≥ 8 * (lenN n : Int)
    · simp only [if_neg c1, if_pos c2, decide_eq_true c2]
      refine Ev.step (fun k => by rw [lienref01_Bent.j0]) ?_
      simp only [if_true]
      exact Ev.now _
    · simp only [if_neg c1, if_neg c2, decide_eq_false c2]
      refine Ev.step (fun k => by rw [lienref01_Bent.j0]) ?_
      obtain ⟨b, rfl⟩ : ∃ b : Nat, bit = (b : Int) := ⟨bit.toNat, by omega⟩
      have hb : b < 8 * lenN n := by omega
      have w1 : IntKind.u64.wrap (Int.tmod (b : Int) 8) = ((b % 8 : Nat) : Int) := by rw [Int.tmod_eq_emod_of_nonneg (by omega), wraps_u64 _ (by omega) (by omega)]; omega
      have w2 : wrap64 (wrap64 (Int.tdiv (b : Int) 8) + 1) = ((b / 8 + 1 : Nat) : Int) := by rw [Int.tdiv_eq_ediv_of_nonneg (by omega), wrap64_id (x := (b : Int) / 8) (by omega) (by omega), wrap64_id (by omega) (by omega)]; omega
      have hp := pow_byte (show b % 8 < 8 by omega)
      simp only [Bool.false_eq_true, if_false, w1, w2, if_pos (show (0 : Int) ≤ ((b % 8 : Nat) : Int) by omega), shl_bit ((b % 8 : Nat) : Int) (by omega) (by omega), Int.toNat_natCast]
      refine Ev.bind (ref_in_ev (c := 0) (by decide) hp) ?_
      rw [← bentN_eq (lenN n) b hb]
      exact ref_Bent_l0 (lenN n) hL (lenN n - 1 - b / 8) (b / 8 + 1) _ (inb_lt (by decide) hp) (by omega)

theorem SumJoins : lienlaw01_SumJoins.Pure := by
  intro a b n bit ha hb hn hbit
  obtain ⟨c, rfl, hc⟩ := u32_nat (wf_u32 ha)
  obtain ⟨d, rfl, hd⟩ := u32_nat (wf_u32 hb)
  obtain ⟨b0, b1⟩ := wf_i64 hbit
  refine Ev.rounds ?_
  unfold lienlaw01_SumJoins.f
  simp only [join_any hc hd, Option.bind_some]
  refine Ev.bind (ref_Join_ev hc hd n) ?_
  simp only [if_true]
  refine Ev.bind (bent_ev n bit b0 b1) ?_
  refine Ev.bind (ref_bent_ev n bit b0 b1) ?_
  simp only [if_true]
  exact Ev.bind awake01 (Ev.now true)

end Go.Proofs.Ythpclknekfjnkaa.Pure
