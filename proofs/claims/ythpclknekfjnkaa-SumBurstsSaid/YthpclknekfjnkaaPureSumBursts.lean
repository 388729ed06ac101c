/- Written for the statement SumBursts over the program's printed functions: numbers and lists alone. -/
import Derived.Test.YthpclknekfjnkaaPSumBurstsx
set_option linter.unusedVariables false
set_option linter.unusedSimpArgs false
namespace Go.Proofs.Ythpclknekfjnkaa.Pure
open Go.RowKit Go.Proofs.Ythpclknekfjnkaa.PSumBursts Go.Proofs.YthpclknekfjnkaaW Go.Proofs.YthpclknekfjnkaaW.PrintWords Go.Proofs.YthpclknekfjnkaaW.PrintLast Go.Proofs.YthpclknekfjnkaaW.PrintMore

theorem wrap64_id {x : Int} (h0 : -9223372036854775808 ≤ x) (h1 : x ≤ 9223372036854775807) : wrap64 x = x := by unfold wrap64; omega
theorem wu64 (n : Int) : IntKind.u64.wrap n = n % 18446744073709551616 := by simp [IntKind.wrap, IntKind.bits, IntKind.signed]
theorem wraps_u64 (n : Int) (h0 : 0 ≤ n) (h1 : n < 2 ^ 64) : IntKind.u64.wrap n = n := by rw [wu64]; omega
theorem u64_and127 {x : Int} (h0 : 0 ≤ x) (h1 : x < 18446744073709551616) : Go.bits .and .u64 x 127 = x % 128 := Go.bits_mask .u64 64 (by decide) wraps_u64 7 (by decide) x h0 h1
theorem u8_and127 {x : Int} (h0 : 0 ≤ x) (h1 : x < 256) : Go.bits .and .u8 x 127 = x % 128 := Go.bits_mask .u8 8 (by decide) Go.wraps_u8 7 (by decide) x h0 h1
theorem bits_comm_or (k : IntKind) (x y : Int) : Go.bits .or k x y = Go.bits .or k y x := by simp [Go.bits, BitVec.or_comm]
theorem u8_or_128 {x : Int} (h0 : 0 ≤ x) (h1 : x < 128) : Go.bits .or .u8 x 128 = x + 128 := by
  rw [bits_comm_or, Go.bits_join .u8 8 (by decide) Go.wraps_u8 7 128 x (by decide) (by decide) (by decide) h0 h1 (by omega)]; omega
theorem u64_join (i : Nat) {x y : Int} (hx0 : 0 ≤ x) (hx : x % 2 ^ i = 0) (hx1 : x < 18446744073709551616) (hy0 : 0 ≤ y) (hy : y < 2 ^ i) (hy1 : y < 18446744073709551616) : Go.bits .or .u64 x y = x + y :=
  Go.bits_join .u64 64 (by decide) wraps_u64 i x y hx0 hx hx1 hy0 hy hy1
theorem wf_u64 {x : Int} (h : (Lit.int .u64 x).wf = true) : 0 ≤ x ∧ x < 18446744073709551616 := by
  simp [Lit.wf, IntKind.min, IntKind.max, IntKind.bits, IntKind.signed] at h; omega
theorem wf_u8 {x : Int} (h : (Lit.int .u8 x).wf = true) : 0 ≤ x ∧ x < 256 := by
  simp [Lit.wf, IntKind.min, IntKind.max, IntKind.bits, IntKind.signed] at h; omega
theorem wf_i64 {x : Int} (h : (Lit.int .i64 x).wf = true) : -9223372036854775808 ≤ x ∧ x ≤ 9223372036854775807 := by
  simp [Lit.wf, IntKind.min, IntKind.max, IntKind.bits, IntKind.signed] at h; omega
def Byt (l : List Int) : Prop := ∀ x ∈ l, 0 ≤ x ∧ x < 256
theorem Byt.of_wf {l : List Int} (h : ∀ x ∈ l, (Lit.int .u8 x).wf = true) : Byt l := fun x hx => wf_u8 (h x hx)
theorem Byt.rd {l : List Int} (h : Byt l) (i : Int) : 0 ≤ rd l i ∧ rd l i < 256 := by
  unfold PrintWords.rd
  rw [List.getD_eq_getElem?_getD]
  cases e : l[i.toNat]? with
  | none => simp
  | some x => exact h x (List.mem_of_getElem? e)
theorem Byt.take {l : List Int} (h : Byt l) (n : Nat) : Byt (l.take n) := fun x hx => h x (List.mem_of_mem_take hx)
theorem Byt.drop {l : List Int} (h : Byt l) (n : Nat) : Byt (l.drop n) := fun x hx => h x (List.mem_of_mem_drop hx)
theorem rd_nat (l : List Int) (i : Nat) : rd l (i : Int) = l.getD i 0 := by unfold PrintWords.rd; simp
theorem rd_drop {l : List Int} {i : Nat} (h : i < l.length) : l.drop i = rd l (i : Int) :: l.drop (i + 1) := by
  rw [rd_nat, List.drop_eq_getElem_cons h]; simp [List.getD_eq_getElem?_getD, List.getElem?_eq_getElem h]

theorem u32of {n : Nat} (h : n < 2 ^ 32) : (BitVec.ofInt 32 (n : Int)).toNat = n := by
  rw [BitVec.toNat_ofInt, show ((n : Int) % ((2 ^ 32 : Nat) : Int)).toNat = n by omega]
theorem u32x {a b : Nat} (ha : a < 2 ^ 32) (hb : b < 2 ^ 32) : Go.bits .xor .u32 (a : Int) (b : Int) = ((a ^^^ b : Nat) : Int) := by
  have e : (BitVec.ofInt 32 (a : Int) ^^^ BitVec.ofInt 32 (b : Int)).toNat = a ^^^ b := by rw [BitVec.toNat_xor, u32of ha, u32of hb]
  show IntKind.u32.wrap ((BitVec.ofInt 32 (a : Int) ^^^ BitVec.ofInt 32 (b : Int)).toNat : Int) = _
  rw [e, show IntKind.u32.wrap ((a ^^^ b : Nat) : Int) = ((a ^^^ b : Nat) : Int) % 4294967296 by simp [IntKind.wrap, IntKind.bits, IntKind.signed]]
  have := Nat.xor_lt_two_pow ha hb
  omega
theorem wf_u32 {x : Int} (h : (Lit.int .u32 x).wf = true) : 0 ≤ x ∧ x < 4294967296 := by
  simp [Lit.wf, IntKind.min, IntKind.max, IntKind.bits, IntKind.signed] at h; omega
def fullN : Nat := 4294967295
theorem u32ok_of {n : Nat} (h : n < 2 ^ 32) : u32ok (n : Int) = true := by
  simp only [u32ok, Bool.and_eq_true, decide_eq_true_eq]
  omega
theorem bytesOk_of {l : List Int} (h : Byt l) : bytesOk l = true := List.all_eq_true.2 fun x hx => by
  have := h x hx
  simp only [Bool.and_eq_true, decide_eq_true_eq]
  omega
theorem feedN_lt : ∀ (l : List Int) (c : Nat), c < 2 ^ 32 → Byt l → feedN c l < 2 ^ 32
  | [], _, h, _ => h
  | x :: xs, c, h, hb => feedN_lt xs _ (inb_lt h (by have := hb x (List.mem_cons_self ..); omega)) (fun y hy => hb y (List.mem_cons_of_mem _ hy))
theorem feedN_app : ∀ (a b : List Int) (c : Nat), feedN c (a ++ b) = feedN (feedN c a) b
  | [], _, _ => rfl
  | x :: xs, b, c => feedN_app xs b _
theorem feed_some {l : List Int} (hb : Byt l) {c : Nat} (h : c < 2 ^ 32) : sum_feed.f (c : Int) l = some ((feedN c l : Nat) : Int) := by
  unfold sum_feed.f
  rw [if_pos (by rw [u32ok_of h, bytesOk_of hb]; rfl), Int.toNat_natCast]
def moreN (c : Nat) (l : List Int) : Nat := feedN (c ^^^ fullN) l ^^^ fullN
def ofN (l : List Int) : Nat := moreN 0 l
theorem full_lt : fullN < 2 ^ 32 := by decide
theorem moreN_lt {l : List Int} (hb : Byt l) {c : Nat} (h : c < 2 ^ 32) : moreN c l < 2 ^ 32 := Nat.xor_lt_two_pow (feedN_lt l _ (Nat.xor_lt_two_pow h full_lt) hb) full_lt
theorem xor_full {c : Nat} (h : c < 2 ^ 32) : Go.bits .xor .u32 4294967295 (c : Int) = ((c ^^^ fullN : Nat) : Int) := by
  rw [Nat.xor_comm]
  exact u32x full_lt h
theorem xor_full' {c : Nat} (h : c < 2 ^ 32) : Go.bits .xor .u32 (c : Int) 4294967295 = ((c ^^^ fullN : Nat) : Int) := u32x h full_lt
theorem of_some {l : List Int} (hb : Byt l) : sum_Of.f l = some ((ofN l : Nat) : Int) := by
  unfold sum_Of.f
  rw [show (4294967295 : Int) = ((fullN : Nat) : Int) from rfl, feed_some hb full_lt, Option.bind_some]
  refine congrArg some ?_
  refine (xor_full (feedN_lt l fullN full_lt hb)).trans ?_
  unfold ofN moreN
  rw [Nat.zero_xor]
theorem ofN_lt {l : List Int} (hb : Byt l) : ofN l < 2 ^ 32 := moreN_lt hb (by decide)
theorem u32_nat {x : Int} (h : 0 ≤ x ∧ x < 4294967296) : ∃ n : Nat, x = (n : Int) ∧ n < 2 ^ 32 := ⟨x.toNat, by omega, by omega⟩
theorem awake01 : Ev (fun _ => lienlaw01_awake.f) true := Ev.now true

theorem cut_some (l : List Int) (hb : Byt l) : ∃ t, lienlaw01_cut.f l = some t ∧ t.length ≤ 3000 ∧ Byt t ∧ (l.length ≤ 3000 → t = l) := by
  unfold lienlaw01_cut.f mn
  by_cases c : (3000 : Int) < (l.length : Int)
  · simp only [if_pos c]
    rw [if_pos (by decide), if_pos (by omega)]
    refine ⟨_, rfl, ?_, hb.take _, fun h => absurd h (by omega)⟩
    rw [List.length_take]
    have : ((3000 : Int)).toNat = 3000 := rfl
    omega
  · simp only [if_neg c]
    rw [if_pos (by omega), if_pos (by omega), Int.toNat_natCast, List.take_length]
    exact ⟨_, rfl, by omega, hb, fun _ => rfl⟩

theorem xor_cancel (a b : Nat) : a ^^^ b ^^^ b = a := by rw [Nat.xor_assoc, Nat.xor_self, Nat.xor_zero]
theorem feedN_lin : ∀ (l : List Int) (a c : Nat), feedN (a ^^^ c) l = stn (8 * l.length) a ^^^ feedN c l
  | [], _, _ => rfl
  | x :: xs, a, c => by
    have e : inb (a ^^^ c) x.toNat = stn 8 a ^^^ inb c x.toNat := by unfold inb; rw [Nat.xor_assoc, stn_lin]
    show feedN (inb (a ^^^ c) x.toNat) xs = stn (8 * (xs.length + 1)) a ^^^ feedN (inb c x.toNat) xs
    rw [e, feedN_lin xs, show 8 * (xs.length + 1) = 8 + 8 * xs.length by omega, stn_add]
theorem length_id {n : Int} (h0 : 0 ≤ n) (h1 : n ≤ 1048576) : sum_length.f n = some n := by
  unfold sum_length.f mn mx
  by_cases c : n < 0
  · omega
  · rw [if_neg c, if_neg (by omega)]
theorem zeros_some {c : Nat} (h : c < 2 ^ 32) {n : Nat} (hn : n ≤ 1048576) : sum_zeros.f (c : Int) (n : Int) = some ((stn (8 * n) c : Nat) : Int) := by
  unfold sum_zeros.f
  rw [if_pos (by rw [u32ok_of h, decide_eq_true (show (0 : Int) ≤ (n : Int) ∧ (n : Int) ≤ 1048576 by omega)]; rfl), Int.toNat_natCast, Int.toNat_natCast]
theorem join_some {c d : Nat} (hc : c < 2 ^ 32) (hd : d < 2 ^ 32) {n : Nat} (hn : n ≤ 1048576) : sum_Join.f (c : Int) (d : Int) (n : Int) = some ((stn (8 * n) c ^^^ d : Nat) : Int) := by
  unfold sum_Join.f
  rw [length_id (by omega) (by omega), Option.bind_some, zeros_some hc hn, Option.bind_some]
  exact congrArg some (u32x (stn_lt _ hc) hd)

theorem u8_xor {a b : Nat} (ha : a < 256) (hb : b < 256) : Go.bits .xor .u8 (a : Int) (b : Int) = ((a ^^^ b : Nat) : Int) := by
  have hlt : a ^^^ b < 2 ^ 8 := Nat.xor_lt_two_pow ha hb
  have e : (BitVec.ofInt 8 (a : Int) ^^^ BitVec.ofInt 8 (b : Int)).toNat = a ^^^ b := by
    rw [BitVec.toNat_xor, BitVec.toNat_ofInt, BitVec.toNat_ofInt]
    rw [show ((a : Int) % ((2 ^ 8 : Nat) : Int)).toNat = a by omega, show ((b : Int) % ((2 ^ 8 : Nat) : Int)).toNat = b by omega]
  show IntKind.u8.wrap ((BitVec.ofInt 8 (a : Int) ^^^ BitVec.ofInt 8 (b : Int)).toNat : Int) = _
  rw [e, Go.wraps_u8 _ (by omega) (by omega)]

theorem shl_bit (q : Int) (h0 : 0 ≤ q) (h1 : q < 8) : shl .u8 1 q = ((2 ^ q.toNat : Nat) : Int) := by
  obtain ⟨j, rfl⟩ : ∃ j : Nat, q = (j : Int) := ⟨q.toNat, by omega⟩
  have h8 : j = 0 ∨ j = 1 ∨ j = 2 ∨ j = 3 ∨ j = 4 ∨ j = 5 ∨ j = 6 ∨ j = 7 := by omega
  rcases h8 with rfl | rfl | rfl | rfl | rfl | rfl | rfl | rfl <;> decide
theorem pow_byte {j : Nat} (h : j < 8) : 2 ^ j < 256 := Nat.pow_lt_pow_right (show 1 < 2 by decide) (show j < 8 from h)

theorem feed_flip : ∀ (l : List Int) (i c m : Nat) (h : i < l.length), Byt l → feedN c (l.set i (((l[i]).toNat ^^^ m : Nat) : Int)) = stn (8 * (l.length - i)) m ^^^ feedN c l
  | x :: xs, 0, c, m, _, hb => by
    show feedN (inb c (((x.toNat ^^^ m : Nat) : Int)).toNat) xs = stn (8 * (xs.length + 1)) m ^^^ feedN (inb c x.toNat) xs
    have e : inb c ((((x.toNat ^^^ m : Nat) : Int)).toNat) = stn 8 m ^^^ inb c x.toNat := by
      rw [Int.toNat_natCast]
      unfold inb
      rw [← stn_lin]
      refine congrArg (stn 8) ?_
      rw [← Nat.xor_assoc, Nat.xor_comm (c ^^^ x.toNat)]
    rw [e, feedN_lin, ← stn_add, show 8 + 8 * xs.length = 8 * (xs.length + 1) by omega]
  | x :: xs, i + 1, c, m, h, hb => by
    have h' : i < xs.length := by simpa using h
    have q := feed_flip xs i (inb c x.toNat) m h' (fun y hy => hb y (List.mem_cons_of_mem _ hy))
    show feedN (inb c x.toNat) (xs.set i (((xs[i]).toNat ^^^ m : Nat) : Int)) = stn (8 * (xs.length + 1 - (i + 1))) m ^^^ feedN (inb c x.toNat) xs
    rw [q, show xs.length + 1 - (i + 1) = xs.length - i by omega]
theorem set_byt {l : List Int} (h : Byt l) (i : Nat) {v : Int} (hv : 0 ≤ v ∧ v < 256) : Byt (l.set i v) := fun x hx => by
  rcases List.mem_or_eq_of_mem_set hx with h1 | h1
  · exact h x h1
  · rw [h1]; exact hv
theorem flip_val {l : List Int} (hb : Byt l) {i : Nat} (h : i < l.length) {j : Nat} (hj : j < 8) : Go.bits .xor .u8 (rd l (i : Int)) (shl .u8 1 (j : Int)) = (((l[i]).toNat ^^^ 2 ^ j : Nat) : Int) ∧ (l[i]).toNat ^^^ 2 ^ j < 256 := by
  have hm := hb l[i] (List.getElem_mem h)
  have e : rd l (i : Int) = (((l[i]).toNat : Nat) : Int) := by
    rw [rd_nat, List.getD_eq_getElem?_getD, List.getElem?_eq_getElem h, Option.getD_some]
    omega
  rw [e, shl_bit (j : Int) (by omega) (by omega), Int.toNat_natCast, u8_xor (by omega) (pow_byte hj)]
  exact ⟨rfl, Nat.xor_lt_two_pow (n := 8) (by omega) (pow_byte hj)⟩
theorem ofN_flip {l : List Int} (hb : Byt l) {i : Nat} (h : i < l.length) (m : Nat) : ofN (l.set i (((l[i]).toNat ^^^ m : Nat) : Int)) = ofN l ^^^ stn (8 * (l.length - i)) m := by
  unfold ofN moreN
  rw [feed_flip l i _ m h hb, Nat.xor_comm (stn _ m), Nat.xor_assoc, Nat.xor_comm (stn _ m), ← Nat.xor_assoc]

def le4 (c : Nat) : List Int := [((c % 256 : Nat) : Int), ((c / 256 % 256 : Nat) : Int), ((c / 65536 % 256 : Nat) : Int), ((c / 16777216 % 256 : Nat) : Int)]
def sealN (l : List Int) : List Int := l ++ le4 (ofN l)
theorem shr_at (c : Nat) (i : Nat) (hi : i ≤ 32) : shr .u32 (c : Int) (i : Int) = ((c / 2 ^ i : Nat) : Int) := by
  unfold shr
  rw [Int.toNat_natCast, show min i IntKind.u32.bits = i by have : IntKind.u32.bits = 32 := rfl; omega]
  simp
theorem shr_byte (c : Nat) (i : Nat) (hi : i < 4) : shr .u32 (c : Int) (wrap64 (8 * (i : Int))) % 256 = (le4 c).getD i 0 := by
  rw [wrap64_id (by omega) (by omega), show (8 * (i : Int)) = ((8 * i : Nat) : Int) by omega, shr_at c (8 * i) (by omega)]
  have h4 : i = 0 ∨ i = 1 ∨ i = 2 ∨ i = 3 := by omega
  rcases h4 with rfl | rfl | rfl | rfl
  · show ((c / 1 : Nat) : Int) % 256 = ((c % 256 : Nat) : Int); omega
  · show ((c / 256 : Nat) : Int) % 256 = ((c / 256 % 256 : Nat) : Int); omega
  · show ((c / 65536 : Nat) : Int) % 256 = ((c / 65536 % 256 : Nat) : Int); omega
  · show ((c / 16777216 : Nat) : Int) % 256 = ((c / 16777216 % 256 : Nat) : Int); omega
theorem le4_len (c : Nat) : (le4 c).length = 4 := rfl
theorem le4_byt (c : Nat) : Byt (le4 c) := fun x hx => by
  simp only [le4, List.mem_cons, List.not_mem_nil, or_false] at hx
  rcases hx with rfl | rfl | rfl | rfl <;> omega
theorem Seal_l0 (c : Nat) (acc : List Int) (hl : acc.length ≤ 100000) : ∀ (d i : Nat), i + d = 4 → ∀ k, d + 1 ≤ k → sum_Seal.l0 k (c : Int) (acc ++ (le4 c).take i) (i : Int) = some (acc ++ le4 c)
  | 0, i, hi, k, hk => by
    obtain ⟨k, rfl⟩ : ∃ m, k = m + 1 := ⟨k - 1, by omega⟩
    have : i = 4 := by omega
    subst this
    rw [sum_Seal.l0, if_neg (by omega)]
    rfl
  | d + 1, i, hi, k, hk => by
    obtain ⟨k, rfl⟩ : ∃ m, k = m + 1 := ⟨k - 1, by omega⟩
    have ht : (le4 c).take (i + 1) = (le4 c).take i ++ [(le4 c).getD i 0] := by
      have h4 : i = 0 ∨ i = 1 ∨ i = 2 ∨ i = 3 := by omega
      rcases h4 with rfl | rfl | rfl | rfl <;> rfl
    rw [sum_Seal.l0, if_pos (by omega), if_pos (by rw [wrap64_id (by omega) (by omega)]; omega), if_pos (by rw [List.length_append, List.length_take, le4_len]; omega), shr_byte c i (by omega), List.append_assoc, ← ht, wrap64_id (by omega) (by omega), show ((i : Int) + 1) = ((i + 1 : Nat) : Int) by omega]
    exact Seal_l0 c acc hl d (i + 1) (by omega) k (by omega)
theorem Seal_ev {l : List Int} (hb : Byt l) (hl : l.length ≤ 100000) : Ev (fun k => sum_Seal.f k l) (sealN l) := ⟨5, fun k hk => by
  show sum_Seal.f k l = some (sealN l)
  unfold sum_Seal.f
  simp only [of_some hb, Option.bind_some, List.nil_append, List.length_nil]
  rw [if_pos (by omega)]
  have q := Seal_l0 (ofN l) l hl 4 0 rfl k hk
  rw [List.take_zero, List.append_nil] at q
  exact q⟩
theorem sealN_len (l : List Int) : (sealN l).length = l.length + 4 := by unfold sealN; rw [List.length_append, le4_len]
theorem sealN_byt {l : List Int} (hb : Byt l) : Byt (sealN l) := fun x hx => (List.mem_append.1 hx).elim (hb x) (le4_byt _ x)
theorem rd_at (l : List Int) (i : Nat) : rd l (i : Int) = l.getD i 0 := rd_nat l i
theorem split4 (l : List Int) (n : Nat) (h : l.length = n + 4) : l = l.take n ++ [rd l ((n + 0 : Nat) : Int), rd l ((n + 1 : Nat) : Int), rd l ((n + 2 : Nat) : Int), rd l ((n + 3 : Nat) : Int)] := by
  have e : l.drop n = [rd l ((n + 0 : Nat) : Int), rd l ((n + 1 : Nat) : Int), rd l ((n + 2 : Nat) : Int), rd l ((n + 3 : Nat) : Int)] := by
    rw [rd_drop (by omega), rd_drop (show n + 1 < l.length by omega), rd_drop (show n + 1 + 1 < l.length by omega), rd_drop (show n + 1 + 1 + 1 < l.length by omega), List.drop_eq_nil_of_le (by omega)]
    rfl
  rw [← e, List.take_append_drop]
/-- What Open says: the bytes, where the sum behind them is theirs. -/
def openN (l : List Int) : List Int × Int := if l.length < 4 then ([], 10) else if sealN (l.take (l.length - 4)) = l then (l.take (l.length - 4), 0) else ([], 10)
open Classical in
theorem Open_l0 (l : List Int) (n c : Nat) (hn : l.length = n + 4) (hl : l.length ≤ 100000) : ∀ (d i : Nat), i + d = 4 → ∀ k, d + 1 ≤ k → sum_Open.l0 k l (n : Int) (c : Int) (i : Int) = some (if ∀ j, i ≤ j → j < 4 → rd l ((n + j : Nat) : Int) = (le4 c).getD j 0 then (l.take n, 0) else ([], 10))
  | 0, i, hi, k, hk => by
    obtain ⟨k, rfl⟩ : ∃ m, k = m + 1 := ⟨k - 1, by omega⟩
    rw [sum_Open.l0, if_neg (by omega), Option.bind_some, if_pos (by omega), if_pos (by omega), if_pos (by rw [List.length_nil, List.length_take]; omega), Int.toNat_natCast, List.nil_append, if_pos (fun j h1 h2 => by omega)]
  | d + 1, i, hi, k, hk => by
    obtain ⟨k, rfl⟩ : ∃ m, k = m + 1 := ⟨k - 1, by omega⟩
    rw [sum_Open.l0, if_pos (by omega), wrap64_id (x := (n : Int) + (i : Int)) (by omega) (by omega), if_pos (by omega), if_pos (by omega), if_pos (by rw [wrap64_id (by omega) (by omega)]; omega), shr_byte c i (by omega), show (n : Int) + (i : Int) = ((n + i : Nat) : Int) by omega]
    by_cases e : rd l ((n + i : Nat) : Int) = (le4 c).getD i 0
    · rw [if_pos e, wrap64_id (by omega) (by omega), show ((i : Int) + 1) = ((i + 1 : Nat) : Int) by omega, Open_l0 l n c hn hl d (i + 1) (by omega) k (by omega)]
      refine congrArg some ?_
      by_cases a : ∀ j, i + 1 ≤ j → j < 4 → rd l ((n + j : Nat) : Int) = (le4 c).getD j 0
      · rw [if_pos a, if_pos (fun j h1 h2 => by
          by_cases q : j = i
          · rw [q]; exact e
          · exact a j (by omega) h2)]
      · rw [if_neg a, if_neg (fun b => a (fun j h1 h2 => b j (by omega) h2))]
    · rw [if_neg e, if_neg (fun b => e (b i (Nat.le_refl _) (by omega)))]
theorem seal_eq (l : List Int) (n : Nat) (hn : l.length = n + 4) : (∀ j, 0 ≤ j → j < 4 → rd l ((n + j : Nat) : Int) = (le4 (ofN (l.take n))).getD j 0) ↔ sealN (l.take n) = l := by
  have e := split4 l n hn
  have hl4 : le4 (ofN (l.take n)) = [(le4 (ofN (l.take n))).getD 0 0, (le4 (ofN (l.take n))).getD 1 0, (le4 (ofN (l.take n))).getD 2 0, (le4 (ofN (l.take n))).getD 3 0] := rfl
  constructor
  · intro h
    unfold sealN
    rw [hl4, ← h 0 (by omega) (by omega), ← h 1 (by omega) (by omega), ← h 2 (by omega) (by omega), ← h 3 (by omega) (by omega)]
    exact e.symm
  · intro h j _ hj
    rw [rd_nat]
    have h2 : l.getD (n + j) 0 = (sealN (l.take n)).getD (n + j) 0 := by rw [h]
    rw [h2]
    unfold sealN
    rw [List.getD_eq_getElem?_getD, List.getElem?_append_right (by rw [List.length_take]; omega), List.length_take, show n + j - min n l.length = j by omega, ← List.getD_eq_getElem?_getD]
open Classical in
theorem Open_ev {l : List Int} (hb : Byt l) (hl : l.length ≤ 100000) : Ev (fun k => sum_Open.f k l) (openN l) := ⟨5, fun k hk => by
  show sum_Open.f k l = some (openN l)
  unfold sum_Open.f openN
  rw [wrap64_id (x := (l.length : Int) - 4) (by omega) (by omega)]
  by_cases c : l.length < 4
  · rw [if_pos (by omega), if_pos c]
  · obtain ⟨n, hn⟩ : ∃ n, l.length = n + 4 := ⟨l.length - 4, by omega⟩
    rw [if_neg (by omega), if_neg c, if_pos (by omega), if_pos (by omega), show ((l.length : Int) - 4) = (n : Int) by omega, Int.toNat_natCast, of_some (hb.take n), Option.bind_some, show l.length - 4 = n by omega]
    have q := Open_l0 l n (ofN (l.take n)) hn hl 4 0 rfl k hk
    refine q.trans (congrArg some ?_)
    by_cases s : sealN (l.take n) = l
    · rw [if_pos ((seal_eq l n hn).2 s), if_pos s]
    · rw [if_neg (fun h => s ((seal_eq l n hn).1 h)), if_neg s]⟩

theorem xor_zero_eq {a b : Nat} (h : a ^^^ b = 0) : a = b := by
  have q := congrArg (fun z => z ^^^ b) h
  simpa [Nat.xor_assoc, Nat.xor_self] using q
theorem stn_inj (n : Nat) {a b : Nat} (ha : a < 2 ^ 32) (hb : b < 2 ^ 32) (h : stn n a = stn n b) : a = b := by
  refine xor_zero_eq (stn_inj0 n (Nat.xor_lt_two_pow ha hb) ?_)
  rw [stn_lin, h, Nat.xor_self]
theorem inb_pow (n r b : Nat) : inb (stn n r) b = stn (n + 8) (r ^^^ 2 ^ n * b) := by
  unfold inb
  rw [stn_add, stn_lin n, stn_pow]
theorem word_split (c : Nat) (h : c < 2 ^ 32) : c % 256 ^^^ 2 ^ 8 * (c / 256 % 256) ^^^ 2 ^ 16 * (c / 65536 % 256) ^^^ 2 ^ 24 * (c / 16777216 % 256) = c := by
  have s1 := split_xor 8 c
  have s2 := split_xor 8 (c / 256)
  have s3 := split_xor 8 (c / 65536)
  have d2 : c / 256 / 2 ^ 8 = c / 65536 := by omega
  have d3 : c / 65536 / 2 ^ 8 = c / 16777216 := by omega
  have d4 : c / 16777216 % 256 = c / 16777216 := by omega
  have x8 : ∀ a b : Nat, 2 ^ 8 * (a ^^^ b) = 2 ^ 8 * a ^^^ 2 ^ 8 * b := fun a b => by
    refine Nat.eq_of_testBit_eq fun i => ?_
    rw [Nat.testBit_xor, Nat.testBit_two_pow_mul, Nat.testBit_two_pow_mul, Nat.testBit_two_pow_mul, Nat.testBit_xor]
    by_cases hi : 8 ≤ i <;> simp [hi]
  rw [d2] at s2
  rw [d3] at s3
  have e3 : 2 ^ 8 * (c / 65536) = 2 ^ 16 * (c / 16777216) ^^^ 2 ^ 8 * (c / 65536 % 256) := by
    conv => lhs; rw [s3]
    rw [x8, ← Nat.mul_assoc]
    first | done | rfl
  have e2 : 2 ^ 8 * (c / 256) = 2 ^ 24 * (c / 16777216) ^^^ 2 ^ 16 * (c / 65536 % 256) ^^^ 2 ^ 8 * (c / 256 % 256) := by
    conv => lhs; rw [s2]
    rw [x8, e3, x8, ← Nat.mul_assoc, ← Nat.mul_assoc]
    first | done | rfl
  rw [d4]
  conv => rhs; rw [s1]
  rw [show c / 2 ^ 8 = c / 256 from rfl, e2, show c % 2 ^ 8 = c % 256 from rfl]
  generalize 2 ^ 24 * (c / 16777216) = p
  generalize 2 ^ 16 * (c / 65536 % 256) = q
  generalize 2 ^ 8 * (c / 256 % 256) = r
  generalize c % 256 = s
  refine Nat.eq_of_testBit_eq fun j => ?_
  simp only [Nat.testBit_xor]
  cases p.testBit j <;> cases q.testBit j <;> cases r.testBit j <;> cases s.testBit j <;> rfl
theorem feed_le4 (r c : Nat) (h : c < 2 ^ 32) : feedN r (le4 c) = stn 32 (r ^^^ c) := by
  show inb (inb (inb (inb r (((c % 256 : Nat) : Int)).toNat) (((c / 256 % 256 : Nat) : Int)).toNat) (((c / 65536 % 256 : Nat) : Int)).toNat) (((c / 16777216 % 256 : Nat) : Int)).toNat = _
  simp only [Int.toNat_natCast]
  rw [show inb r (c % 256) = stn 8 (r ^^^ c % 256) from rfl, inb_pow, inb_pow, inb_pow]
  refine congrArg (stn 32) ?_
  have w := word_split c h
  rw [Nat.xor_assoc r, Nat.xor_assoc r, Nat.xor_assoc r, w]
theorem ok_iff {l : List Int} (hb : Byt l) {n : Nat} (hn : l.length = n + 4) : sealN (l.take n) = l ↔ feedN fullN l = stn 32 fullN := by
  have hr : feedN fullN (l.take n) < 2 ^ 32 := feedN_lt _ _ full_lt (hb.take n)
  have ho : ofN (l.take n) = feedN fullN (l.take n) ^^^ fullN := by unfold ofN moreN; rw [Nat.zero_xor]
  obtain ⟨c, hc, hl⟩ : ∃ c, c < 2 ^ 32 ∧ l = l.take n ++ le4 c := by
    have e := split4 l n hn
    have g : ∀ j : Nat, 0 ≤ rd l ((j : Nat) : Int) ∧ rd l ((j : Nat) : Int) < 256 := fun j => hb.rd _
    have g0 := g (n + 0)
    have g1 := g (n + 1)
    have g2 := g (n + 2)
    have g3 := g (n + 3)
    generalize rd l ((n + 0 : Nat) : Int) = b0 at e g0
    generalize rd l ((n + 1 : Nat) : Int) = b1 at e g1
    generalize rd l ((n + 2 : Nat) : Int) = b2 at e g2
    generalize rd l ((n + 3 : Nat) : Int) = b3 at e g3
    refine ⟨(b0 + 256 * b1 + 65536 * b2 + 16777216 * b3).toNat, by omega, ?_⟩
    have e4 : le4 (b0 + 256 * b1 + 65536 * b2 + 16777216 * b3).toNat = [b0, b1, b2, b3] := by
      unfold le4
      simp only [List.cons.injEq, and_true]
      refine ⟨?_, ?_, ?_, ?_⟩ <;> omega
    rw [e4]
    exact e
  have hf : feedN fullN l = stn 32 (feedN fullN (l.take n) ^^^ c) := by
    conv => lhs; rw [hl]
    rw [feedN_app, feed_le4 _ c hc]
  rw [hf]
  constructor
  · intro h
    have h4 : le4 (ofN (l.take n)) = le4 c := by
      have : l.take n ++ le4 (ofN (l.take n)) = l.take n ++ le4 c := h.trans hl
      exact List.append_cancel_left this
    have f1 := feed_le4 0 (ofN (l.take n)) (ofN_lt (hb.take n))
    have f2 := feed_le4 0 c hc
    rw [h4, f2, Nat.zero_xor, Nat.zero_xor] at f1
    have ec := stn_inj 32 hc (ofN_lt (hb.take n)) f1
    rw [ec, ho]
    refine congrArg (stn 32) ?_
    rw [← Nat.xor_assoc, Nat.xor_self, Nat.zero_xor]
  · intro h
    have e := stn_inj 32 (Nat.xor_lt_two_pow hr hc) full_lt h
    have ec : c = ofN (l.take n) := by
      rw [ho]
      have q := congrArg (fun z => feedN fullN (l.take n) ^^^ z) e
      generalize feedN fullN (l.take n) = rr at q ⊢
      simp only [← Nat.xor_assoc, Nat.xor_self, Nat.zero_xor] at q
      exact q
    unfold sealN
    rw [← ec]
    exact hl.symm
theorem u32a1 {a : Nat} (ha : a < 2 ^ 32) : Go.bits .and .u32 (a : Int) 1 = ((a % 2 : Nat) : Int) := by
  have e : (BitVec.ofInt 32 (a : Int) &&& BitVec.ofInt 32 (1 : Int)).toNat = a % 2 := by
    rw [BitVec.toNat_and, u32of ha, show (BitVec.ofInt 32 (1 : Int)).toNat = 1 by decide, Nat.and_one_is_mod]
  show IntKind.u32.wrap ((BitVec.ofInt 32 (a : Int) &&& BitVec.ofInt 32 (1 : Int)).toNat : Int) = _
  rw [e, show IntKind.u32.wrap ((a % 2 : Nat) : Int) = ((a % 2 : Nat) : Int) % 4294967296 by simp [IntKind.wrap, IntKind.bits, IntKind.signed]]
  omega
/-- The bits that are turned: those of the mask that lie within. -/
def turns (mask f L : Nat) : Nat → Nat
  | 0 => 0
  | k + 1 => if mask / 2 ^ k % 2 = 1 ∧ f + k < 8 * L then turns mask f L k ^^^ 2 ^ k else turns mask f L k
theorem turns_lt (mask f L : Nat) : ∀ k, turns mask f L k < 2 ^ k
  | 0 => by show (0 : Nat) < 1; decide
  | k + 1 => by
    have ih := turns_lt mask f L k
    rw [turns]
    have h2 : 2 ^ k < 2 ^ (k + 1) := Nat.pow_lt_pow_right (by decide) (by omega)
    split
    · exact Nat.xor_lt_two_pow (by omega) h2
    · omega
theorem turns_ne (mask f L k : Nat) : turns mask f L k ^^^ 2 ^ k ≠ 0 := fun h => by
  have e := xor_zero_eq h
  have := turns_lt mask f L k
  omega
theorem stn_bit (n k : Nat) (h : k ≤ n) : stn n (2 ^ k) = stn (n - k) 1 := by
  have e := stn_add k (n - k) (2 ^ k)
  rw [show k + (n - k) = n by omega] at e
  rw [e, show (2 : Nat) ^ k = 2 ^ k * 1 by rw [Nat.mul_one], stn_pow]
theorem turn_step {l : List Int} (hb : Byt l) (f k : Nat) (hq : f + k < 8 * l.length) : feedN fullN (l.set ((f + k) / 8) (((l[(f + k) / 8]'(by omega)).toNat ^^^ 2 ^ ((f + k) % 8) : Nat) : Int)) = feedN fullN l ^^^ stn (8 * l.length - f) (2 ^ k) := by
  rw [feed_flip l _ _ _ (by omega) hb, Nat.xor_comm]
  refine congrArg (fun z => feedN fullN l ^^^ z) ?_
  rw [stn_bit _ _ (by omega), stn_bit _ _ (by omega), show 8 * (l.length - (f + k) / 8) - (f + k) % 8 = 8 * l.length - f - k by omega]

theorem bw1 (k : Nat) (h : k < 32) : IntKind.u64.wrap (k : Int) = (k : Int) := wraps_u64 _ (by omega) (by omega)
theorem bw2 (mask k : Nat) (hm : mask < 2 ^ 32) (h : k < 32) : Go.bits .and .u32 (shr .u32 (mask : Int) (k : Int)) 1 = ((mask / 2 ^ k % 2 : Nat) : Int) := by
  rw [shr_at mask k (Nat.le_of_lt h)]
  exact u32a1 (Nat.lt_of_le_of_lt (Nat.div_le_self _ _) hm)
theorem bw3 (f k : Nat) (h : f + k < 100000) : wrap64 ((f : Int) + (k : Int)) = ((f + k : Nat) : Int) := by rw [wrap64_id (by omega) (by omega)]; omega
theorem bw4 (n : Nat) (h : n < 10000) : wrap64 (8 * (n : Int)) = ((8 * n : Nat) : Int) := by rw [wrap64_id (by omega) (by omega)]; omega
theorem bw5 (k : Nat) (h : k < 32) : wrap64 ((k : Int) + 1) = ((k + 1 : Nat) : Int) := by rw [wrap64_id (by omega) (by omega)]; omega
theorem bw6 (q : Nat) (h : q < 100000) : wrap64 (Int.tdiv (q : Int) 8) = ((q / 8 : Nat) : Int) := by rw [Int.tdiv_eq_ediv_of_nonneg (by omega), wrap64_id (by omega) (by omega)]; omega
theorem bw7 (q : Nat) (h : q < 100000) : IntKind.u64.wrap (Int.tmod (q : Int) 8) = ((q % 8 : Nat) : Int) := by rw [Int.tmod_eq_emod_of_nonneg (by omega), wraps_u64 _ (by omega) (by omega)]; omega
theorem cast_one {q : Nat} (h : q = 1) : (q : Int) = 1 := by omega
theorem cast_ne_one {q : Nat} (h : ¬ q = 1) : ¬ (q : Int) = 1 := by omega
theorem bursts_l0 (mask f : Nat) (hm : mask < 2 ^ 32) (s : List Int) (n : Nat) (hn : s.length = n + 4) (hnl : n ≤ 3000) (hs : feedN fullN s = stn 32 fullN) (hf : f < 8 * s.length) : ∀ (d k : Nat) (x : List Int), k + d = 32 → Byt x → x.length = s.length → feedN fullN x = feedN fullN s ^^^ stn (8 * s.length - f) (turns mask f s.length k) →
    Ev (fun r => lienlaw01_SumBursts.l0 r (mask : Int) x (f : Int) (turns mask f s.length k != 0) (k : Int)) true
  | 0, k, x, hk, hb, hx, hF => by
    have hk' : k = 32 := by omega
    subst hk'
    refine Ev.step (fun k => by rw [lienlaw01_SumBursts.l0]) ?_
    simp only [if_neg (show ¬ ((32 : Nat) : Int) < 32 by omega)]
    refine Ev.bind (Open_ev hb (by omega)) ?_
    have hV := turns_lt mask f s.length 32
    have ok := ok_iff hb (show x.length = n + 4 by omega)
    have e : (turns mask f s.length 32 != 0) = ((openN x).2 == 10) ∧ ((turns mask f s.length 32 != 0) = true → ((openN x).1.length : Int) = 0) := by
      unfold openN
      rw [if_neg (by omega), show x.length - 4 = n by omega]
      by_cases c : turns mask f s.length 32 = 0
      · have h1 : feedN fullN x = stn 32 fullN := by rw [hF, c, stn_zero, Nat.xor_zero, hs]
        rw [if_pos (ok.2 h1), c]
        exact ⟨rfl, fun h => by cases h⟩
      · have h1 : ¬ feedN fullN x = stn 32 fullN := fun h => by
          rw [hF, hs] at h
          have q := congrArg (fun z => stn 32 fullN ^^^ z) h
          simp only [← Nat.xor_assoc, Nat.xor_self, Nat.zero_xor] at q
          exact c (stn_inj0 _ hV q)
        rw [if_neg (fun h => h1 (ok.1 h)), bne_iff_ne.2 c]
        exact ⟨rfl, fun _ => rfl⟩
    rw [← e.1]
    simp only [beq_self_eq_true, if_true]
    cases hv : (turns mask f s.length 32 != 0) with
    | true =>
      simp only [if_true, if_pos (e.2 hv)]
      exact Ev.bind awake01 (Ev.now true)
    | false =>
      simp only [Bool.false_eq_true, if_false]
      exact Ev.bind awake01 (Ev.now true)
  | d + 1, k, x, hk, hb, hx, hF => by
    have hk1 : (k : Int) < 32 := by clear hF hs hb; omega
    have hk2 : (0 : Int) ≤ (k : Int) := Int.natCast_nonneg _
    have hk3 : k < 32 := by clear hF hs hb; omega
    have hfk : f + k < 100000 := by clear hF hs hb; omega
    have hxl : x.length < 10000 := by clear hF hs hb; omega
    by_cases c1 : mask / 2 ^ k % 2 = 1
    · by_cases c2 : f + k < 8 * s.length
      · have hi : (f + k) / 8 < x.length := by clear hF hs hb c1; omega
        have d2 : ((f + k : Nat) : Int) < ((8 * x.length : Nat) : Int) := Int.ofNat_lt.2 (by rw [hx]; exact c2)
        have d4 : (((f + k) / 8 : Nat) : Int) < (x.length : Int) := Int.ofNat_lt.2 hi
        have hkd : k + 1 + d = 32 := by clear hF hs hb c1; omega
        have h8 : (f + k) % 8 < 8 := Nat.mod_lt _ (by decide)
        obtain ⟨v1, v2⟩ := flip_val hb hi h8
        have et : turns mask f s.length (k + 1) = turns mask f s.length k ^^^ 2 ^ k := by rw [turns, if_pos ⟨c1, c2⟩]
        have en : (turns mask f s.length (k + 1) != 0) = true := by rw [et]; exact bne_iff_ne.2 (turns_ne _ _ _ _)
        have ts := turn_step hb f k (by rw [hx]; exact c2)
        have ih := bursts_l0 mask f hm s n hn hnl hs hf d (k + 1) (x.set ((f + k) / 8) (((x[(f + k) / 8]).toNat ^^^ 2 ^ ((f + k) % 8) : Nat) : Int)) hkd (set_byt hb _ ⟨Int.natCast_nonneg _, Int.ofNat_lt.2 v2⟩) (by rw [List.length_set]; exact hx) (by
          rw [ts, hF, et, stn_lin, hx, Nat.xor_assoc])
        rw [en] at ih
        refine Ev.step (fun r => ?_) ih
        rw [lienlaw01_SumBursts.l0, if_pos hk1, bw1 k hk3, if_pos hk2, bw2 mask k hm hk3, if_pos (cast_one c1), bw3 f k hfk, bw4 _ hxl, if_pos d2, bw6 _ hfk, if_pos (Int.natCast_nonneg _), if_pos d4, bw7 _ hfk, if_pos (Int.natCast_nonneg _), v1, bw5 k hk3, Int.toNat_natCast]
      · have d2 : ¬ ((f + k : Nat) : Int) < ((8 * x.length : Nat) : Int) := fun h => c2 (by rw [← hx]; exact Int.ofNat_lt.1 h)
        have hkd : k + 1 + d = 32 := by clear hF hs hb c1; omega
        have et : turns mask f s.length (k + 1) = turns mask f s.length k := by rw [turns, if_neg (fun h => c2 h.2)]
        have ih := bursts_l0 mask f hm s n hn hnl hs hf d (k + 1) x hkd hb hx (by rw [et]; exact hF)
        rw [et] at ih
        refine Ev.step (fun r => ?_) ih
        rw [lienlaw01_SumBursts.l0, if_pos hk1, bw1 k hk3, if_pos hk2, bw2 mask k hm hk3, if_pos (cast_one c1), bw3 f k hfk, bw4 _ hxl, if_neg d2, bw5 k hk3]
    · have hkd : k + 1 + d = 32 := by clear hF hs hb c1; omega
      have et : turns mask f s.length (k + 1) = turns mask f s.length k := by rw [turns, if_neg (fun h => c1 h.1)]
      have ih := bursts_l0 mask f hm s n hn hnl hs hf d (k + 1) x hkd hb hx (by rw [et]; exact hF)
      rw [et] at ih
      refine Ev.step (fun r => ?_) ih
      rw [lienlaw01_SumBursts.l0, if_pos hk1, bw1 k hk3, if_pos hk2, bw2 mask k hm hk3, if_neg (cast_ne_one c1), bw5 k hk3]
theorem SumBursts : lienlaw01_SumBursts.Pure := by
  intro l a m _ _ hw ha hm
  obtain ⟨a0, a1⟩ := wf_u64 ha
  obtain ⟨mask, rfl, hmask⟩ := u32_nat (wf_u32 hm)
  obtain ⟨t, ht, htl, hb, _⟩ := cut_some l (Byt.of_wf hw)
  refine Ev.rounds ?_
  unfold lienlaw01_SumBursts.f
  simp only [ht, Option.bind_some]
  refine Ev.bind (Seal_ev hb (by omega)) ?_
  have hsl := sealN_len t
  simp only [if_neg (show ¬ ((sealN t).length : Int) < 4 by omega)]
  refine Ev.step (fun k => by rw [lienlaw01_SumBursts.j0]) ?_
  by_cases c : (mask : Int) = 0
  · rw [beq_iff_eq.2 c]
    simp only [if_true, if_pos (show ((sealN t).length : Int) ≥ 4 by omega)]
    exact Ev.bind awake01 (Ev.now true)
  · rw [beq_eq_false_iff_ne.2 c]
    have w1 : IntKind.u64.wrap (wrap64 (8 * ((sealN t).length : Int))) = 8 * ((sealN t).length : Int) := by rw [wrap64_id (by omega) (by omega), wraps_u64 _ (by omega) (by omega)]
    have m0 := Int.emod_nonneg a (show 8 * ((sealN t).length : Int) ≠ 0 by omega)
    have m1 := Int.emod_lt_of_pos a (show (0 : Int) < 8 * ((sealN t).length : Int) by omega)
    obtain ⟨f, hf⟩ : ∃ f : Nat, a % (8 * ((sealN t).length : Int)) = (f : Int) := ⟨(a % (8 * ((sealN t).length : Int))).toNat, by omega⟩
    have w2 : wrap64 (Int.tmod a (8 * ((sealN t).length : Int))) = (f : Int) := by rw [Int.tmod_eq_emod_of_nonneg a0, hf, wrap64_id (by omega) (by omega)]
    simp only [Bool.false_eq_true, if_false, w1, w2, if_neg (show ¬ 8 * ((sealN t).length : Int) = 0 by omega)]
    have hbs := sealN_byt hb
    have e : (sealN t).take t.length = t := by
      unfold sealN
      rw [List.take_append_of_le_length (Nat.le_refl _), List.take_length]
    have hs := (ok_iff hbs (n := t.length) hsl).1 (by rw [e])
    have q := bursts_l0 mask f hmask (sealN t) t.length hsl htl hs (by omega) 32 0 (sealN t) (by omega) hbs rfl (by rw [turns, stn_zero, Nat.xor_zero])
    exact q

end Go.Proofs.Ythpclknekfjnkaa.Pure
