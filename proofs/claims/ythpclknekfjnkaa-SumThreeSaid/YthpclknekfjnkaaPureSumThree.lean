/- Written for the statement SumThree over the program's printed functions: numbers and lists alone. -/
import Derived.Test.YthpclknekfjnkaaPSumThreex
set_option linter.unusedVariables false
set_option linter.unusedSimpArgs false
namespace Go.Proofs.Ythpclknekfjnkaa.Pure
open Go.RowKit Go.Proofs.Ythpclknekfjnkaa.PSumThree Go.Proofs.YthpclknekfjnkaaW Go.Proofs.YthpclknekfjnkaaW.PrintWords Go.Proofs.YthpclknekfjnkaaW.PrintLast Go.Proofs.YthpclknekfjnkaaW.PrintMore

theorem wrap64_id {x : Int} (h0 : -9223372036854775808 ≤ x) (h1 : x ≤ 9223372036854775807) : wrap64 x = x := by unfold wrap64; omega
theorem wu64 (n : Int) : IntKind.u64.wrap n = n % 18446744073709551616 := by simp [IntKind.wrap, IntKind.bits, IntKind.signed]
theorem wraps_u64 (n : Int) (h0 : 0 ≤ n) (h1 : n < 2 ^ 64) : IntKind.u64.wrap n = n := by rw [wu64]; omega
theorem u64_and127 {x : Int} (h0 : 0 ≤ x) (h1 : x < 18446744073709551616) : Go.bits .and .u64 x 127 = x % 128 := Go.bits_mask .u64 64 (by decide) wraps_u64 7 (by decide) x h0 h1
theorem u8_and127 {x : Int} (h0 : 0 ≤ x) (h1 : x < 256) : Go.bits .and .u8 x 127 = x % 128 := Go.bits_mask .u8 8 (by decide) Go.wraps_u8 7 (by decide) x h0 h1
theorem bits_comm_or (k : IntKind) (x y : Int) : Go.bits .or k x y = Go.bits .or k y x := by simp [Go.bits, BitVec.or_comm]
theorem u8_or_128 {x : Int} (h0 : 0 ≤ x) (h1 : x < 128) : Go.bits .or .u8 x 128 = x + 128 := by
  rw [bits_comm_or, Go.bits_join .u8 8 (by decide) Go.wraps_u8 7 128 x (by decide) (by decide) (by decide) h0 h1 (by omega)]; omega
theorem u64_join (i : Nat) {x y : Int} (hx0 : 0 ≤ x) (hx : x % 2 ^ i = 0) (hx1 : x < 18446744073709551616) (hy0 : 0 ≤ y) (hy : y < 2 ^ i) (hy1 : y < 18446744073709551616) : Go.bits .or .u64 x y = x + y :=
  Go.bits_join .u64 64 (by decide) wraps_u64 i x y hx0 hx hx1 hy0 hy hy1
theorem wf_u64 {x : Int} (h : (Lit.int .u64 x).wf = true) : 0 ≤ x ∧ x < 18446744073709551616 := by
  simp [Lit.wf, IntKind.min, IntKind.max, IntKind.bits, IntKind.signed] at h; omega
theorem wf_u8 {x : Int} (h : (Lit.int .u8 x).wf = true) : 0 ≤ x ∧ x < 256 := by
  simp [Lit.wf, IntKind.min, IntKind.max, IntKind.bits, IntKind.signed] at h; omega
theorem wf_i64 {x : Int} (h : (Lit.int .i64 x).wf = true) : -9223372036854775808 ≤ x ∧ x ≤ 9223372036854775807 := by
  simp [Lit.wf, IntKind.min, IntKind.max, IntKind.bits, IntKind.signed] at h; omega
def Byt (l : List Int) : Prop := ∀ x ∈ l, 0 ≤ x ∧ x < 256
theorem Byt.of_wf {l : List Int} (h : ∀ x ∈ l, (Lit.int .u8 x).wf = true) : Byt l := fun x hx => wf_u8 (h x hx)
theorem Byt.rd {l : List Int} (h : Byt l) (i : Int) : 0 ≤ rd l i ∧ rd l i < 256 := by
  unfold PrintWords.rd
  rw [List.getD_eq_getElem?_getD]
  cases e : l[i.toNat]? with
  | none => simp
  | some x => exact h x (List.mem_of_getElem? e)
theorem Byt.take {l : List Int} (h : Byt l) (n : Nat) : Byt (l.take n) := fun x hx => h x (List.mem_of_mem_take hx)
theorem Byt.drop {l : List Int} (h : Byt l) (n : Nat) : Byt (l.drop n) := fun x hx => h x (List.mem_of_mem_drop hx)
theorem rd_nat (l : List Int) (i : Nat) : rd l (i : Int) = l.getD i 0 := by unfold PrintWords.rd; simp
theorem rd_drop {l : List Int} {i : Nat} (h : i < l.length) : l.drop i = rd l (i : Int) :: l.drop (i + 1) := by
  rw [rd_nat, List.drop_eq_getElem_cons h]; simp [List.getD_eq_getElem?_getD, List.getElem?_eq_getElem h]

theorem u32of {n : Nat} (h : n < 2 ^ 32) : (BitVec.ofInt 32 (n : Int)).toNat = n := by
  rw [BitVec.toNat_ofInt, show ((n : Int) % ((2 ^ 32 : Nat) : Int)).toNat = n by omega]
theorem u32x {a b : Nat} (ha : a < 2 ^ 32) (hb : b < 2 ^ 32) : Go.bits .xor .u32 (a : Int) (b : Int) = ((a ^^^ b : Nat) : Int) := by
  have e : (BitVec.ofInt 32 (a : Int) ^^^ BitVec.ofInt 32 (b : Int)).toNat = a ^^^ b := by rw [BitVec.toNat_xor, u32of ha, u32of hb]
  show IntKind.u32.wrap ((BitVec.ofInt 32 (a : Int) ^^^ BitVec.ofInt 32 (b : Int)).toNat : Int) = _
  rw [e, show IntKind.u32.wrap ((a ^^^ b : Nat) : Int) = ((a ^^^ b : Nat) : Int) % 4294967296 by simp [IntKind.wrap, IntKind.bits, IntKind.signed]]
  have := Nat.xor_lt_two_pow ha hb
  omega
theorem wf_u32 {x : Int} (h : (Lit.int .u32 x).wf = true) : 0 ≤ x ∧ x < 4294967296 := by
  simp [Lit.wf, IntKind.min, IntKind.max, IntKind.bits, IntKind.signed] at h; omega
def fullN : Nat := 4294967295
theorem u32ok_of {n : Nat} (h : n < 2 ^ 32) : u32ok (n : Int) = true := by
  simp only [u32ok, Bool.and_eq_true, decide_eq_true_eq]
  omega
theorem bytesOk_of {l : List Int} (h : Byt l) : bytesOk l = true := List.all_eq_true.2 fun x hx => by
  have := h x hx
  simp only [Bool.and_eq_true, decide_eq_true_eq]
  omega
theorem feedN_lt : ∀ (l : List Int) (c : Nat), c < 2 ^ 32 → Byt l → feedN c l < 2 ^ 32
  | [], _, h, _ => h
  | x :: xs, c, h, hb => feedN_lt xs _ (inb_lt h (by have := hb x (List.mem_cons_self ..); omega)) (fun y hy => hb y (List.mem_cons_of_mem _ hy))
theorem feedN_app : ∀ (a b : List Int) (c : Nat), feedN c (a ++ b) = feedN (feedN c a) b
  | [], _, _ => rfl
  | x :: xs, b, c => feedN_app xs b _
theorem feed_some {l : List Int} (hb : Byt l) {c : Nat} (h : c < 2 ^ 32) : sum_feed.f (c : Int) l = some ((feedN c l : Nat) : Int) := by
  unfold sum_feed.f
  rw [if_pos (by rw [u32ok_of h, bytesOk_of hb]; rfl), Int.toNat_natCast]
def moreN (c : Nat) (l : List Int) : Nat := feedN (c ^^^ fullN) l ^^^ fullN
def ofN (l : List Int) : Nat := moreN 0 l
theorem full_lt : fullN < 2 ^ 32 := by decide
theorem moreN_lt {l : List Int} (hb : Byt l) {c : Nat} (h : c < 2 ^ 32) : moreN c l < 2 ^ 32 := Nat.xor_lt_two_pow (feedN_lt l _ (Nat.xor_lt_two_pow h full_lt) hb) full_lt
theorem xor_full {c : Nat} (h : c < 2 ^ 32) : Go.bits .xor .u32 4294967295 (c : Int) = ((c ^^^ fullN : Nat) : Int) := by
  rw [Nat.xor_comm]
  exact u32x full_lt h
theorem xor_full' {c : Nat} (h : c < 2 ^ 32) : Go.bits .xor .u32 (c : Int) 4294967295 = ((c ^^^ fullN : Nat) : Int) := u32x h full_lt
theorem of_some {l : List Int} (hb : Byt l) : sum_Of.f l = some ((ofN l : Nat) : Int) := by
  unfold sum_Of.f
  rw [show (4294967295 : Int) = ((fullN : Nat) : Int) from rfl, feed_some hb full_lt, Option.bind_some]
  refine congrArg some ?_
  refine (xor_full (feedN_lt l fullN full_lt hb)).trans ?_
  unfold ofN moreN
  rw [Nat.zero_xor]
theorem ofN_lt {l : List Int} (hb : Byt l) : ofN l < 2 ^ 32 := moreN_lt hb (by decide)
theorem u32_nat {x : Int} (h : 0 ≤ x ∧ x < 4294967296) : ∃ n : Nat, x = (n : Int) ∧ n < 2 ^ 32 := ⟨x.toNat, by omega, by omega⟩
theorem awake01 : Ev (fun _ => lienlaw01_awake.f) true := Ev.now true

theorem xor_cancel (a b : Nat) : a ^^^ b ^^^ b = a := by rw [Nat.xor_assoc, Nat.xor_self, Nat.xor_zero]
theorem feedN_lin : ∀ (l : List Int) (a c : Nat), feedN (a ^^^ c) l = stn (8 * l.length) a ^^^ feedN c l
  | [], _, _ => rfl
  | x :: xs, a, c => by
    have e : inb (a ^^^ c) x.toNat = stn 8 a ^^^ inb c x.toNat := by unfold inb; rw [Nat.xor_assoc, stn_lin]
    show feedN (inb (a ^^^ c) x.toNat) xs = stn (8 * (xs.length + 1)) a ^^^ feedN (inb c x.toNat) xs
    rw [e, feedN_lin xs, show 8 * (xs.length + 1) = 8 + 8 * xs.length by omega, stn_add]
theorem length_id {n : Int} (h0 : 0 ≤ n) (h1 : n ≤ 1048576) : sum_length.f n = some n := by
  unfold sum_length.f mn mx
  by_cases c : n < 0
  · omega
  · rw [if_neg c, if_neg (by omega)]
theorem zeros_some {c : Nat} (h : c < 2 ^ 32) {n : Nat} (hn : n ≤ 1048576) : sum_zeros.f (c : Int) (n : Int) = some ((stn (8 * n) c : Nat) : Int) := by
  unfold sum_zeros.f
  rw [if_pos (by rw [u32ok_of h, decide_eq_true (show (0 : Int) ≤ (n : Int) ∧ (n : Int) ≤ 1048576 by omega)]; rfl), Int.toNat_natCast, Int.toNat_natCast]
theorem join_some {c d : Nat} (hc : c < 2 ^ 32) (hd : d < 2 ^ 32) {n : Nat} (hn : n ≤ 1048576) : sum_Join.f (c : Int) (d : Int) (n : Int) = some ((stn (8 * n) c ^^^ d : Nat) : Int) := by
  unfold sum_Join.f
  rw [length_id (by omega) (by omega), Option.bind_some, zeros_some hc hn, Option.bind_some]
  exact congrArg some (u32x (stn_lt _ hc) hd)

theorem u8_xor {a b : Nat} (ha : a < 256) (hb : b < 256) : Go.bits .xor .u8 (a : Int) (b : Int) = ((a ^^^ b : Nat) : Int) := by
  have hlt : a ^^^ b < 2 ^ 8 := Nat.xor_lt_two_pow ha hb
  have e : (BitVec.ofInt 8 (a : Int) ^^^ BitVec.ofInt 8 (b : Int)).toNat = a ^^^ b := by
    rw [BitVec.toNat_xor, BitVec.toNat_ofInt, BitVec.toNat_ofInt]
    rw [show ((a : Int) % ((2 ^ 8 : Nat) : Int)).toNat = a by omega, show ((b : Int) % ((2 ^ 8 : Nat) : Int)).toNat = b by omega]
  show IntKind.u8.wrap ((BitVec.ofInt 8 (a : Int) ^^^ BitVec.ofInt 8 (b : Int)).toNat : Int) = _
  rw [e, Go.wraps_u8 _ (by omega) (by omega)]
theorem byt_nat {l : List Int} (h : Byt l) (i : Int) : ∃ n : Nat, rd l i = (n : Int) ∧ n < 256 := ⟨(rd l i).toNat, by have := h.rd i; omega, by have := h.rd i; omega⟩
def x3 (x y z : List Int) (i : Nat) : Int := Go.bits .xor .u8 (Go.bits .xor .u8 (rd x (i : Int)) (rd y (i : Int))) (rd z (i : Int))
theorem x3_nat {x y z : List Int} (hx : Byt x) (hy : Byt y) (hz : Byt z) (i : Nat) : (x3 x y z i) = (((rd x (i : Int)).toNat ^^^ (rd y (i : Int)).toNat ^^^ (rd z (i : Int)).toNat : Nat) : Int) ∧ 0 ≤ x3 x y z i ∧ x3 x y z i < 256 := by
  obtain ⟨a, ea, ha⟩ := byt_nat hx (i : Int)
  obtain ⟨b, eb, hb⟩ := byt_nat hy (i : Int)
  obtain ⟨c, ec, hc⟩ := byt_nat hz (i : Int)
  have h1 : a ^^^ b < 2 ^ 8 := Nat.xor_lt_two_pow ha hb
  have h2 : a ^^^ b ^^^ c < 2 ^ 8 := Nat.xor_lt_two_pow h1 hc
  unfold x3
  rw [ea, eb, ec, u8_xor ha hb, u8_xor h1 hc]
  simp only [Int.toNat_natCast]
  refine ⟨?_, by omega, by omega⟩
  first | rfl | trivial
theorem feed3 {x y z : List Int} (hx : Byt x) (hy : Byt y) (hz : Byt z) : ∀ (L : List Nat) (a b c : Nat), feedN (a ^^^ b ^^^ c) (L.map (x3 x y z)) = feedN a (L.map fun i => rd x ((i : Nat) : Int)) ^^^ feedN b (L.map fun i => rd y ((i : Nat) : Int)) ^^^ feedN c (L.map fun i => rd z ((i : Nat) : Int))
  | [], _, _, _ => rfl
  | i :: L, a, b, c => by
    have e : inb (a ^^^ b ^^^ c) (x3 x y z i).toNat = inb a (rd x (i : Int)).toNat ^^^ inb b (rd y (i : Int)).toNat ^^^ inb c (rd z (i : Int)).toNat := by
      rw [(x3_nat hx hy hz i).1, Int.toNat_natCast]
      unfold inb
      rw [← stn_lin, ← stn_lin]
      refine congrArg (stn 8) ?_
      generalize (rd x (i : Int)).toNat = p
      generalize (rd y (i : Int)).toNat = q
      generalize (rd z (i : Int)).toNat = r
      refine Nat.eq_of_testBit_eq fun j => ?_
      simp only [Nat.testBit_xor]
      cases a.testBit j <;> cases b.testBit j <;> cases c.testBit j <;> cases p.testBit j <;> cases q.testBit j <;> cases r.testBit j <;> rfl
    show feedN (inb (a ^^^ b ^^^ c) (x3 x y z i).toNat) (L.map (x3 x y z)) = _
    rw [e, feed3 hx hy hz L]
    rfl
theorem take_range (l : List Int) (n : Nat) (h : n ≤ l.length) : l.take n = (List.range n).map fun i => rd l ((i : Nat) : Int) := by
  apply List.ext_getElem?
  intro i
  rw [List.getElem?_take, List.getElem?_map]
  by_cases c : i < n
  · rw [if_pos c, List.getElem?_range c, List.getElem?_eq_getElem (by omega)]
    simp [rd_nat, List.getD_eq_getElem?_getD, List.getElem?_eq_getElem (show i < l.length by omega)]
  · rw [if_neg c, List.getElem?_eq_none (by rw [List.length_range]; omega)]
    rfl
def upto3 (x y z : List Int) (n i : Nat) : List Int := (List.range n).map fun j => if j < i then x3 x y z j else 0
theorem upto3_len (x y z : List Int) (n i : Nat) : (upto3 x y z n i).length = n := by simp [upto3]
theorem upto3_set (x y z : List Int) (n i : Nat) (h : i < n) : (upto3 x y z n i).set i (x3 x y z i) = upto3 x y z n (i + 1) := by
  apply List.ext_getElem?
  intro j
  rw [List.getElem?_set]
  by_cases c : j < n
  · have e : ∀ k, (upto3 x y z n k)[j]? = some (if j < k then x3 x y z j else 0) := fun k => by simp [upto3, c]
    rw [e, e, upto3_len]
    by_cases c2 : i = j
    · subst c2
      simp [h]
    · rw [if_neg c2]
      by_cases c3 : j < i
      · rw [if_pos c3, if_pos (by omega)]
      · rw [if_neg c3, if_neg (by omega)]
  · have e : ∀ k, (upto3 x y z n k)[j]? = none := fun k => List.getElem?_eq_none (by rw [upto3_len]; omega)
    rw [e, e, upto3_len]
    by_cases c2 : i = j
    · omega
    · rw [if_neg c2]

theorem three_l0 (x y z : List Int) (hx : Byt x) (hy : Byt y) (hz : Byt z) (n : Nat) (hn : n ≤ 2000) (hnx : n ≤ x.length) (hny : n ≤ y.length) (hnz : n ≤ z.length) : ∀ (d i : Nat), i + d = n → Ev (fun k => lienlaw01_SumThree.l0 k x y z (n : Int) (upto3 x y z n i) (i : Int)) true
  | 0, i, hi => by
    have hi' : i = n := by omega
    subst hi'
    refine Ev.step (fun k => by rw [lienlaw01_SumThree.l0]) ?_
    have e1 : upto3 x y z i i = (List.range i).map (x3 x y z) := by
      unfold upto3
      refine List.map_congr_left fun j hj => ?_
      rw [if_pos (List.mem_range.1 hj)]
    have hb : Byt (upto3 x y z i i) := by
      rw [e1]
      intro v hv
      obtain ⟨j, _, rfl⟩ := List.mem_map.1 hv
      exact (x3_nat hx hy hz j).2
    have main : ofN (upto3 x y z i i) = ofN (x.take i) ^^^ ofN (y.take i) ^^^ ofN (z.take i) := by
      rw [e1, take_range x i hnx, take_range y i hny, take_range z i hnz]
      unfold ofN moreN
      simp only [Nat.zero_xor]
      have q := feed3 hx hy hz (List.range i) fullN fullN fullN
      rw [xor_cancel] at q
      rw [q]
      generalize feedN fullN ((List.range i).map fun i => rd x ((i : Nat) : Int)) = p
      generalize feedN fullN ((List.range i).map fun i => rd y ((i : Nat) : Int)) = r
      generalize feedN fullN ((List.range i).map fun i => rd z ((i : Nat) : Int)) = s
      refine Nat.eq_of_testBit_eq fun j => ?_
      simp only [Nat.testBit_xor]
      cases fullN.testBit j <;> cases p.testBit j <;> cases r.testBit j <;> cases s.testBit j <;> rfl
    simp only [if_neg (show ¬ (i : Int) < (i : Int) by omega), if_pos (show (0 : Int) ≤ (i : Int) by omega), if_pos (show (i : Int) ≤ (x.length : Int) by omega), if_pos (show (i : Int) ≤ (y.length : Int) by omega), if_pos (show (i : Int) ≤ (z.length : Int) by omega), Int.toNat_natCast, of_some hb, of_some (hx.take i), of_some (hy.take i), of_some (hz.take i), Option.bind_some]
    rw [u32x (ofN_lt (hx.take i)) (ofN_lt (hy.take i)), u32x (Nat.xor_lt_two_pow (ofN_lt (hx.take i)) (ofN_lt (hy.take i))) (ofN_lt (hz.take i)), main]
    simp only [if_true]
    exact Ev.bind awake01 (Ev.now true)
  | d + 1, i, hi => by
    refine Ev.step (fun k => by rw [lienlaw01_SumThree.l0]) ?_
    simp only [upto3_len, if_pos (show (i : Int) < (n : Int) by omega), if_pos (show (0 : Int) ≤ (i : Int) by omega), if_pos (show (i : Int) < (x.length : Int) by omega), if_pos (show (i : Int) < (y.length : Int) by omega), if_pos (show (i : Int) < (z.length : Int) by omega), Int.toNat_natCast]
    rw [show wrap64 ((i : Int) + 1) = ((i + 1 : Nat) : Int) by rw [wrap64_id (by omega) (by omega)]; omega, show (upto3 x y z n i).set i (Go.bits .xor .u8 (Go.bits .xor .u8 (rd x (i : Int)) (rd y (i : Int))) (rd z (i : Int))) = upto3 x y z n (i + 1) from upto3_set x y z n i (by omega)]
    exact three_l0 x y z hx hy hz n hn hnx hny hnz d (i + 1) (by omega)
theorem SumThree : lienlaw01_SumThree.Pure := by
  intro x y z _ _ hx _ _ hy _ _ hz
  refine Ev.rounds ?_
  unfold lienlaw01_SumThree.f
  obtain ⟨n, hn, h1, h2, h3, h4⟩ : ∃ n : Nat, mn (mn (mn (x.length : Int) (y.length : Int)) (z.length : Int)) 2000 = (n : Int) ∧ n ≤ 2000 ∧ n ≤ x.length ∧ n ≤ y.length ∧ n ≤ z.length := by
    refine ⟨(mn (mn (mn (x.length : Int) (y.length : Int)) (z.length : Int)) 2000).toNat, ?_⟩
    unfold mn
    split <;> split <;> split <;> omega
  rw [hn]
  simp only [if_pos (show (0 : Int) ≤ (n : Int) by omega), Int.toNat_natCast, if_pos (show n ≤ 281474976710656 by omega)]
  have e : List.replicate n (0 : Int) = upto3 x y z n 0 := by
    refine (List.eq_replicate_iff.2 ⟨upto3_len x y z n 0, fun b hb => ?_⟩).symm
    obtain ⟨j, _, rfl⟩ := List.mem_map.1 hb
    exact if_neg (Nat.not_lt_zero j)
  rw [e]
  exact three_l0 x y z (Byt.of_wf hx) (Byt.of_wf hy) (Byt.of_wf hz) n h1 h2 h3 h4 n 0 (by omega)

end Go.Proofs.Ythpclknekfjnkaa.Pure
