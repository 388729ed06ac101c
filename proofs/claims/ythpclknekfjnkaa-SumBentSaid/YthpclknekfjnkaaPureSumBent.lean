/- Written for the statement SumBent over the program's printed functions: numbers and lists alone. -/
import Derived.Test.YthpclknekfjnkaaPSumBentx
set_option linter.unusedVariables false
set_option linter.unusedSimpArgs false
namespace Go.Proofs.Ythpclknekfjnkaa.Pure
open Go.RowKit Go.Proofs.Ythpclknekfjnkaa.PSumBent Go.Proofs.YthpclknekfjnkaaW Go.Proofs.YthpclknekfjnkaaW.PrintWords Go.Proofs.YthpclknekfjnkaaW.PrintLast Go.Proofs.YthpclknekfjnkaaW.PrintMore

theorem wrap64_id {x : Int} (h0 : -9223372036854775808 ≤ x) (h1 : x ≤ 9223372036854775807) : wrap64 x = x := by unfold wrap64; omega
theorem wu64 (n : Int) : IntKind.u64.wrap n = n % 18446744073709551616 := by simp [IntKind.wrap, IntKind.bits, IntKind.signed]
theorem wraps_u64 (n : Int) (h0 : 0 ≤ n) (h1 : n < 2 ^ 64) : IntKind.u64.wrap n = n := by rw [wu64]; omega
theorem u64_and127 {x : Int} (h0 : 0 ≤ x) (h1 : x < 18446744073709551616) : Go.bits .and .u64 x 127 = x % 128 := Go.bits_mask .u64 64 (by decide) wraps_u64 7 (by decide) x h0 h1
theorem u8_and127 {x : Int} (h0 : 0 ≤ x) (h1 : x < 256) : Go.bits .and .u8 x 127 = x % 128 := Go.bits_mask .u8 8 (by decide) Go.wraps_u8 7 (by decide) x h0 h1
theorem bits_comm_or (k : IntKind) (x y : Int) : Go.bits .or k x y = Go.bits .or k y x := by simp [Go.bits, BitVec.or_comm]
theorem u8_or_128 {x : Int} (h0 : 0 ≤ x) (h1 : x < 128) : Go.bits .or .u8 x 128 = x + 128 := by
  rw [bits_comm_or, Go.bits_join .u8 8 (by decide) Go.wraps_u8 7 128 x (by decide) (by decide) (by decide) h0 h1 (by omega)]; omega
theorem u64_join (i : Nat) {x y : Int} (hx0 : 0 ≤ x) (hx : x % 2 ^ i = 0) (hx1 : x < 18446744073709551616) (hy0 : 0 ≤ y) (hy : y < 2 ^ i) (hy1 : y < 18446744073709551616) : Go.bits .or .u64 x y = x + y :=
  Go.bits_join .u64 64 (by decide) wraps_u64 i x y hx0 hx hx1 hy0 hy hy1
theorem wf_u64 {x : Int} (h : (Lit.int .u64 x).wf = true) : 0 ≤ x ∧ x < 18446744073709551616 := by
  simp [Lit.wf, IntKind.min, IntKind.max, IntKind.bits, IntKind.signed] at h; omega
theorem wf_u8 {x : Int} (h : (Lit.int .u8 x).wf = true) : 0 ≤ x ∧ x < 256 := by
  simp [Lit.wf, IntKind.min, IntKind.max, IntKind.bits, IntKind.signed] at h; omega
theorem wf_i64 {x : Int} (h : (Lit.int .i64 x).wf = true) : -9223372036854775808 ≤ x ∧ x ≤ 9223372036854775807 := by
  simp [Lit.wf, IntKind.min, IntKind.max, IntKind.bits, IntKind.signed] at h; omega
def Byt (l : List Int) : Prop := ∀ x ∈ l, 0 ≤ x ∧ x < 256
theorem Byt.of_wf {l : List Int} (h : ∀ x ∈ l, (Lit.int .u8 x).wf = true) : Byt l := fun x hx => wf_u8 (h x hx)
theorem Byt.rd {l : List Int} (h : Byt l) (i : Int) : 0 ≤ rd l i ∧ rd l i < 256 := by
  unfold PrintWords.rd
  rw [List.getD_eq_getElem?_getD]
  cases e : l[i.toNat]? with
  | none => simp
  | some x => exact h x (List.mem_of_getElem? e)
theorem Byt.take {l : List Int} (h : Byt l) (n : Nat) : Byt (l.take n) := fun x hx => h x (List.mem_of_mem_take hx)
theorem Byt.drop {l : List Int} (h : Byt l) (n : Nat) : Byt (l.drop n) := fun x hx => h x (List.mem_of_mem_drop hx)
theorem rd_nat (l : List Int) (i : Nat) : rd l (i : Int) = l.getD i 0 := by unfold PrintWords.rd; simp
theorem rd_drop {l : List Int} {i : Nat} (h : i < l.length) : l.drop i = rd l (i : Int) :: l.drop (i + 1) := by
  rw [rd_nat, List.drop_eq_getElem_cons h]; simp [List.getD_eq_getElem?_getD, List.getElem?_eq_getElem h]

theorem u32of {n : Nat} (h : n < 2 ^ 32) : (BitVec.ofInt 32 (n : Int)).toNat = n := by
  rw [BitVec.toNat_ofInt, show ((n : Int) % ((2 ^ 32 : Nat) : Int)).toNat = n by omega]
theorem u32x {a b : Nat} (ha : a < 2 ^ 32) (hb : b < 2 ^ 32) : Go.bits .xor .u32 (a : Int) (b : Int) = ((a ^^^ b : Nat) : Int) := by
  have e : (BitVec.ofInt 32 (a : Int) ^^^ BitVec.ofInt 32 (b : Int)).toNat = a ^^^ b := by rw [BitVec.toNat_xor, u32of ha, u32of hb]
  show IntKind.u32.wrap ((BitVec.ofInt 32 (a : Int) ^^^ BitVec.ofInt 32 (b : Int)).toNat : Int) = _
  rw [e, show IntKind.u32.wrap ((a ^^^ b : Nat) : Int) = ((a ^^^ b : Nat) : Int) % 4294967296 by simp [IntKind.wrap, IntKind.bits, IntKind.signed]]
  have := Nat.xor_lt_two_pow ha hb
  omega
theorem wf_u32 {x : Int} (h : (Lit.int .u32 x).wf = true) : 0 ≤ x ∧ x < 4294967296 := by
  simp [Lit.wf, IntKind.min, IntKind.max, IntKind.bits, IntKind.signed] at h; omega
def fullN : Nat := 4294967295
theorem u32ok_of {n : Nat} (h : n < 2 ^ 32) : u32ok (n : Int) = true := by
  simp only [u32ok, Bool.and_eq_true, decide_eq_true_eq]
  omega
theorem bytesOk_of {l : List Int} (h : Byt l) : bytesOk l = true := List.all_eq_true.2 fun x hx => by
  have := h x hx
  simp only [Bool.and_eq_true, decide_eq_true_eq]
  omega
theorem feedN_lt : ∀ (l : List Int) (c : Nat), c < 2 ^ 32 → Byt l → feedN c l < 2 ^ 32
  | [], _, h, _ => h
  | x :: xs, c, h, hb => feedN_lt xs _ (inb_lt h (by have := hb x (List.mem_cons_self ..); omega)) (fun y hy => hb y (List.mem_cons_of_mem _ hy))
theorem feedN_app : ∀ (a b : List Int) (c : Nat), feedN c (a ++ b) = feedN (feedN c a) b
  | [], _, _ => rfl
  | x :: xs, b, c => feedN_app xs b _
theorem feed_some {l : List Int} (hb : Byt l) {c : Nat} (h : c < 2 ^ 32) : sum_feed.f (c : Int) l = some ((feedN c l : Nat) : Int) := by
  unfold sum_feed.f
  rw [if_pos (by rw [u32ok_of h, bytesOk_of hb]; rfl), Int.toNat_natCast]
def moreN (c : Nat) (l : List Int) : Nat := feedN (c ^^^ fullN) l ^^^ fullN
def ofN (l : List Int) : Nat := moreN 0 l
theorem full_lt : fullN < 2 ^ 32 := by decide
theorem moreN_lt {l : List Int} (hb : Byt l) {c : Nat} (h : c < 2 ^ 32) : moreN c l < 2 ^ 32 := Nat.xor_lt_two_pow (feedN_lt l _ (Nat.xor_lt_two_pow h full_lt) hb) full_lt
theorem xor_full {c : Nat} (h : c < 2 ^ 32) : Go.bits .xor .u32 4294967295 (c : Int) = ((c ^^^ fullN : Nat) : Int) := by
  rw [Nat.xor_comm]
  exact u32x full_lt h
theorem xor_full' {c : Nat} (h : c < 2 ^ 32) : Go.bits .xor .u32 (c : Int) 4294967295 = ((c ^^^ fullN : Nat) : Int) := u32x h full_lt
theorem of_some {l : List Int} (hb : Byt l) : sum_Of.f l = some ((ofN l : Nat) : Int) := by
  unfold sum_Of.f
  rw [show (4294967295 : Int) = ((fullN : Nat) : Int) from rfl, feed_some hb full_lt, Option.bind_some]
  refine congrArg some ?_
  refine (xor_full (feedN_lt l fullN full_lt hb)).trans ?_
  unfold ofN moreN
  rw [Nat.zero_xor]
theorem ofN_lt {l : List Int} (hb : Byt l) : ofN l < 2 ^ 32 := moreN_lt hb (by decide)
theorem u32_nat {x : Int} (h : 0 ≤ x ∧ x < 4294967296) : ∃ n : Nat, x = (n : Int) ∧ n < 2 ^ 32 := ⟨x.toNat, by omega, by omega⟩
theorem awake01 : Ev (fun _ => lienlaw01_awake.f) true := Ev.now true

theorem cut_some (l : List Int) (hb : Byt l) : ∃ t, lienlaw01_cut.f l = some t ∧ t.length ≤ 3000 ∧ Byt t ∧ (l.length ≤ 3000 → t = l) := by
  unfold lienlaw01_cut.f mn
  by_cases c : (3000 : Int) < (l.length : Int)
  · simp only [if_pos c]
    rw [if_pos (by decide), if_pos (by omega)]
    refine ⟨_, rfl, ?_, hb.take _, fun h => absurd h (by omega)⟩
    rw [List.length_take]
    have : ((3000 : Int)).toNat = 3000 := rfl
    omega
  · simp only [if_neg c]
    rw [if_pos (by omega), if_pos (by omega), Int.toNat_natCast, List.take_length]
    exact ⟨_, rfl, by omega, hb, fun _ => rfl⟩

theorem xor_cancel (a b : Nat) : a ^^^ b ^^^ b = a := by rw [Nat.xor_assoc, Nat.xor_self, Nat.xor_zero]
theorem feedN_lin : ∀ (l : List Int) (a c : Nat), feedN (a ^^^ c) l = stn (8 * l.length) a ^^^ feedN c l
  | [], _, _ => rfl
  | x :: xs, a, c => by
    have e : inb (a ^^^ c) x.toNat = stn 8 a ^^^ inb c x.toNat := by unfold inb; rw [Nat.xor_assoc, stn_lin]
    show feedN (inb (a ^^^ c) x.toNat) xs = stn (8 * (xs.length + 1)) a ^^^ feedN (inb c x.toNat) xs
    rw [e, feedN_lin xs, show 8 * (xs.length + 1) = 8 + 8 * xs.length by omega, stn_add]
theorem length_id {n : Int} (h0 : 0 ≤ n) (h1 : n ≤ 1048576) : sum_length.f n = some n := by
  unfold sum_length.f mn mx
  by_cases c : n < 0
  · omega
  · rw [if_neg c, if_neg (by omega)]
theorem zeros_some {c : Nat} (h : c < 2 ^ 32) {n : Nat} (hn : n ≤ 1048576) : sum_zeros.f (c : Int) (n : Int) = some ((stn (8 * n) c : Nat) : Int) := by
  unfold sum_zeros.f
  rw [if_pos (by rw [u32ok_of h, decide_eq_true (show (0 : Int) ≤ (n : Int) ∧ (n : Int) ≤ 1048576 by omega)]; rfl), Int.toNat_natCast, Int.toNat_natCast]
theorem join_some {c d : Nat} (hc : c < 2 ^ 32) (hd : d < 2 ^ 32) {n : Nat} (hn : n ≤ 1048576) : sum_Join.f (c : Int) (d : Int) (n : Int) = some ((stn (8 * n) c ^^^ d : Nat) : Int) := by
  unfold sum_Join.f
  rw [length_id (by omega) (by omega), Option.bind_some, zeros_some hc hn, Option.bind_some]
  exact congrArg some (u32x (stn_lt _ hc) hd)

theorem u8_xor {a b : Nat} (ha : a < 256) (hb : b < 256) : Go.bits .xor .u8 (a : Int) (b : Int) = ((a ^^^ b : Nat) : Int) := by
  have hlt : a ^^^ b < 2 ^ 8 := Nat.xor_lt_two_pow ha hb
  have e : (BitVec.ofInt 8 (a : Int) ^^^ BitVec.ofInt 8 (b : Int)).toNat = a ^^^ b := by
    rw [BitVec.toNat_xor, BitVec.toNat_ofInt, BitVec.toNat_ofInt]
    rw [show ((a : Int) % ((2 ^ 8 : Nat) : Int)).toNat = a by omega, show ((b : Int) % ((2 ^ 8 : Nat) : Int)).toNat = b by omega]
  show IntKind.u8.wrap ((BitVec.ofInt 8 (a : Int) ^^^ BitVec.ofInt 8 (b : Int)).toNat : Int) = _
  rw [e, Go.wraps_u8 _ (by omega) (by omega)]

def lenN (n : Int) : Nat := (mn (mx n 0) 1048576).toNat
theorem lenN_le (n : Int) : lenN n ≤ 1048576 := by
  unfold lenN mn mx
  split <;> split <;> omega
theorem length_some (n : Int) : sum_length.f n = some (lenN n : Int) := by
  unfold sum_length.f lenN
  refine congrArg some ?_
  unfold mn mx
  split <;> split <;> omega
theorem lenN_id (n : Nat) (h : n ≤ 3000) : lenN (n : Int) = n := by
  unfold lenN mn mx
  split <;> split <;> omega
theorem join_any {c d : Nat} (hc : c < 2 ^ 32) (hd : d < 2 ^ 32) (n : Int) : sum_Join.f (c : Int) (d : Int) n = some ((stn (8 * lenN n) c ^^^ d : Nat) : Int) := by
  unfold sum_Join.f
  rw [length_some, Option.bind_some, zeros_some hc (lenN_le n), Option.bind_some]
  exact congrArg some (u32x (stn_lt _ hc) hd)
theorem shl_bit (q : Int) (h0 : 0 ≤ q) (h1 : q < 8) : shl .u8 1 q = ((2 ^ q.toNat : Nat) : Int) := by
  obtain ⟨j, rfl⟩ : ∃ j : Nat, q = (j : Int) := ⟨q.toNat, by omega⟩
  have h8 : j = 0 ∨ j = 1 ∨ j = 2 ∨ j = 3 ∨ j = 4 ∨ j = 5 ∨ j = 6 ∨ j = 7 := by omega
  rcases h8 with rfl | rfl | rfl | rfl | rfl | rfl | rfl | rfl <;> decide
theorem pow_byte {j : Nat} (h : j < 8) : 2 ^ j < 256 := Nat.pow_lt_pow_right (show 1 < 2 by decide) (show j < 8 from h)
/-- By what a turned bit turns the sum of n bytes. -/
def bentN (n b : Nat) : Nat := stn (8 * (n - b / 8)) (2 ^ (b % 8))
theorem bentN_eq (n b : Nat) (h : b < 8 * n) : stn (8 * (n - 1 - b / 8)) (inb 0 (2 ^ (b % 8))) = bentN n b := by
  unfold bentN inb
  rw [Nat.zero_xor, ← stn_add, show 8 + 8 * (n - 1 - b / 8) = 8 * (n - b / 8) by omega]
def bentAll (n bit : Int) : Nat := if bit < 0 then 0 else if bit ≥ 8 * (lenN n : Int) then 0 else bentN (lenN n) bit.toNat
theorem bent_ev (n bit : Int) (hb0 : -9223372036854775808 ≤ bit) (hb1 : bit ≤ 9223372036854775807) : Ev (fun k => sum_Bent.f k n bit) ((bentAll n bit : Nat) : Int) := by
  have hL := lenN_le n
  unfold sum_Bent.f bentAll
  simp only [length_some, Option.bind_some]
  rw [wrap64_id (x := 8 * (lenN n : Int)) (by omega) (by omega)]
  by_cases c1 : bit < 0
  · simp only [if_pos c1]
    refine Ev.step (fun k => by rw [sum_Bent.j0]) ?_
    simp only [if_true]
    exact Ev.now _
  · by_cases c2 : bit ≥ 8 * (lenN n : Int)
    · simp only [if_neg c1, if_pos c2, decide_eq_true c2]
      refine Ev.step (fun k => by rw [sum_Bent.j0]) ?_
      simp only [if_true]
      exact Ev.now _
    · simp only [if_neg c1, if_neg c2, decide_eq_false c2]
      obtain ⟨b, rfl⟩ : ∃ b : Nat, bit = (b : Int) := ⟨bit.toNat, by omega⟩
      have hb : b < 8 * lenN n := by omega
      have w1 : Int.tmod (b : Int) 8 = ((b % 8 : Nat) : Int) := by rw [Int.tmod_eq_emod_of_nonneg (by omega)]; omega
      have w2 : Int.tdiv (b : Int) 8 = ((b / 8 : Nat) : Int) := by rw [Int.tdiv_eq_ediv_of_nonneg (by omega)]; omega
      have w3 : wrap64 (wrap64 ((lenN n : Int) - 1) - wrap64 ((b / 8 : Nat) : Int)) = ((lenN n - 1 - b / 8 : Nat) : Int) := by
        rw [wrap64_id (x := (lenN n : Int) - 1) (by omega) (by omega), wrap64_id (x := ((b / 8 : Nat) : Int)) (by omega) (by omega), wrap64_id (by omega) (by omega)]
        omega
      have hp := pow_byte (show b % 8 < 8 by omega)
      have f1 : sum_feed.f 0 [((2 ^ (b % 8) : Nat) : Int)] = some ((inb 0 (2 ^ (b % 8)) : Nat) : Int) :=
        feed_some (l := [((2 ^ (b % 8) : Nat) : Int)]) (c := 0) (fun x hx => by rw [List.mem_singleton.1 hx]; exact ⟨Int.natCast_nonneg _, Int.ofNat_lt.2 hp⟩) (by decide)
      have z : sum_zeros.f ((inb 0 (2 ^ (b % 8)) : Nat) : Int) ((lenN n - 1 - b / 8 : Nat) : Int) = some ((bentN (lenN n) b : Nat) : Int) := by
        rw [zeros_some (inb_lt (c := 0) (by decide) hp) (by omega), bentN_eq (lenN n) b hb]
      have e : ∀ x : Nat, sum_Bent.j0 (x + 1) (lenN n : Int) (b : Int) false = some ((bentN (lenN n) b : Nat) : Int) := fun x => by
        rw [sum_Bent.j0, if_neg (by decide), w1, w2, w3, if_pos (by omega), shl_bit ((b % 8 : Nat) : Int) (by omega) (by omega), Int.toNat_natCast, f1, Option.bind_some, z, Option.bind_some]
      exact ⟨1, fun k hk => by
        obtain ⟨x, rfl⟩ : ∃ x, k = x + 1 := ⟨k - 1, by omega⟩
        exact e x⟩
theorem bentN_lt (n b : Nat) : bentN n b < 2 ^ 32 := stn_lt _ (by have := pow_byte (show b % 8 < 8 by omega); omega)

theorem feed_flip : ∀ (l : List Int) (i c m : Nat) (h : i < l.length), Byt l → feedN c (l.set i (((l[i]).toNat ^^^ m : Nat) : Int)) = stn (8 * (l.length - i)) m ^^^ feedN c l
  | x :: xs, 0, c, m, _, hb => by
    show feedN (inb c (((x.toNat ^^^ m : Nat) : Int)).toNat) xs = stn (8 * (xs.length + 1)) m ^^^ feedN (inb c x.toNat) xs
    have e : inb c ((((x.toNat ^^^ m : Nat) : Int)).toNat) = stn 8 m ^^^ inb c x.toNat := by
      rw [Int.toNat_natCast]
      unfold inb
      rw [← stn_lin]
      refine congrArg (stn 8) ?_
      rw [← Nat.xor_assoc, Nat.xor_comm (c ^^^ x.toNat)]
    rw [e, feedN_lin, ← stn_add, show 8 + 8 * xs.length = 8 * (xs.length + 1) by omega]
  | x :: xs, i + 1, c, m, h, hb => by
    have h' : i < xs.length := by simpa using h
    have q := feed_flip xs i (inb c x.toNat) m h' (fun y hy => hb y (List.mem_cons_of_mem _ hy))
    show feedN (inb c x.toNat) (xs.set i (((xs[i]).toNat ^^^ m : Nat) : Int)) = stn (8 * (xs.length + 1 - (i + 1))) m ^^^ feedN (inb c x.toNat) xs
    rw [q, show xs.length + 1 - (i + 1) = xs.length - i by omega]
theorem set_byt {l : List Int} (h : Byt l) (i : Nat) {v : Int} (hv : 0 ≤ v ∧ v < 256) : Byt (l.set i v) := fun x hx => by
  rcases List.mem_or_eq_of_mem_set hx with h1 | h1
  · exact h x h1
  · rw [h1]; exact hv
theorem flip_val {l : List Int} (hb : Byt l) {i : Nat} (h : i < l.length) {j : Nat} (hj : j < 8) : Go.bits .xor .u8 (rd l (i : Int)) (shl .u8 1 (j : Int)) = (((l[i]).toNat ^^^ 2 ^ j : Nat) : Int) ∧ (l[i]).toNat ^^^ 2 ^ j < 256 := by
  have hm := hb l[i] (List.getElem_mem h)
  have e : rd l (i : Int) = (((l[i]).toNat : Nat) : Int) := by
    rw [rd_nat, List.getD_eq_getElem?_getD, List.getElem?_eq_getElem h, Option.getD_some]
    omega
  rw [e, shl_bit (j : Int) (by omega) (by omega), Int.toNat_natCast, u8_xor (by omega) (pow_byte hj)]
  exact ⟨rfl, Nat.xor_lt_two_pow (n := 8) (by omega) (pow_byte hj)⟩
theorem ofN_flip {l : List Int} (hb : Byt l) {i : Nat} (h : i < l.length) (m : Nat) : ofN (l.set i (((l[i]).toNat ^^^ m : Nat) : Int)) = ofN l ^^^ stn (8 * (l.length - i)) m := by
  unfold ofN moreN
  rw [feed_flip l i _ m h hb, Nat.xor_comm (stn _ m), Nat.xor_assoc, Nat.xor_comm (stn _ m), ← Nat.xor_assoc]

theorem SumBent : lienlaw01_SumBent.Pure := by
  intro l a _ _ hw ha
  obtain ⟨a0, a1⟩ := wf_u64 ha
  obtain ⟨t, ht, htl, hb, _⟩ := cut_some l (Byt.of_wf hw)
  refine Ev.rounds ?_
  unfold lienlaw01_SumBent.f
  simp only [ht, Option.bind_some]
  by_cases c : t.length = 0
  · simp only [if_pos (show (t.length : Int) = 0 by omega)]
    exact Ev.bind awake01 (Ev.now true)
  · have w1 : IntKind.u64.wrap (wrap64 (8 * (t.length : Int))) = 8 * (t.length : Int) := by rw [wrap64_id (by omega) (by omega), wraps_u64 _ (by omega) (by omega)]
    have m0 := Int.emod_nonneg a (show 8 * (t.length : Int) ≠ 0 by omega)
    have m1 := Int.emod_lt_of_pos a (show (0 : Int) < 8 * (t.length : Int) by omega)
    obtain ⟨b, hbit⟩ : ∃ b : Nat, a % (8 * (t.length : Int)) = (b : Int) := ⟨(a % (8 * (t.length : Int))).toNat, by omega⟩
    have hb8 : b < 8 * t.length := by omega
    have w2 : wrap64 (Int.tmod a (8 * (t.length : Int))) = (b : Int) := by rw [Int.tmod_eq_emod_of_nonneg a0, hbit, wrap64_id (by omega) (by omega)]
    have w3 : wrap64 (Int.tdiv (b : Int) 8) = ((b / 8 : Nat) : Int) := by rw [Int.tdiv_eq_ediv_of_nonneg (by omega), wrap64_id (by omega) (by omega)]; omega
    have w4 : IntKind.u64.wrap (Int.tmod (b : Int) 8) = ((b % 8 : Nat) : Int) := by rw [Int.tmod_eq_emod_of_nonneg (by omega), wraps_u64 _ (by omega) (by omega)]; omega
    have hi : b / 8 < t.length := by omega
    obtain ⟨v1, v2⟩ := flip_val hb hi (show b % 8 < 8 by omega)
    have hb2 : Byt (t.set (b / 8) (((t[b / 8]).toNat ^^^ 2 ^ (b % 8) : Nat) : Int)) := set_byt hb _ ⟨Int.natCast_nonneg _, Int.ofNat_lt.2 v2⟩
    have o1 := of_some hb2
    have o2 := of_some hb
    have ob := bent_ev (t.length : Int) (b : Int) (by omega) (by omega)
    have eb : bentAll (t.length : Int) (b : Int) = bentN t.length b := by
      unfold bentAll
      rw [lenN_id t.length htl, if_neg (by omega), if_neg (by omega), Int.toNat_natCast]
    rw [eb] at ob
    have ef := ofN_flip hb hi (2 ^ (b % 8))
    have ex : ((ofN (t.set (b / 8) (((t[b / 8]).toNat ^^^ 2 ^ (b % 8) : Nat) : Int)) : Nat) : Int) = Go.bits .xor .u32 ((ofN t : Nat) : Int) ((bentN t.length b : Nat) : Int) := by
      rw [u32x (ofN_lt hb) (bentN_lt _ _), ef]
      rfl
    have hne : ¬ ((bentN t.length b : Nat) : Int) = 0 := fun h => by
      have h0 : bentN t.length b = 0 := by omega
      have hp := pow_byte (show b % 8 < 8 by omega)
      have := stn_inj0 _ (show 2 ^ (b % 8) < 2 ^ 32 by omega) h0
      exact absurd this (Nat.ne_of_gt (Nat.pow_pos (by decide)))
    rw [ex] at o1
    generalize ((bentN t.length b : Nat) : Int) = r3 at o1 ob hne
    generalize ((ofN t : Nat) : Int) = r2 at o1 o2
    simp only [w1, w2, w3, w4, if_neg (show ¬ (t.length : Int) = 0 by omega), if_neg (show ¬ 8 * (t.length : Int) = 0 by omega), List.length_nil, List.nil_append, if_pos (show 0 + t.length < 140737488355328 by omega), if_pos (show (0 : Int) ≤ ((b / 8 : Nat) : Int) by omega), if_pos (show ((b / 8 : Nat) : Int) < (t.length : Int) by omega), if_pos (show (0 : Int) ≤ ((b % 8 : Nat) : Int) by omega), Int.toNat_natCast, v1, o1, o2, Option.bind_some]
    refine Ev.bind ob ?_
    simp only [if_true]
    refine Ev.bind ob ?_
    simp only [if_neg hne]
    exact Ev.bind awake01 (Ev.now true)

end Go.Proofs.Ythpclknekfjnkaa.Pure
