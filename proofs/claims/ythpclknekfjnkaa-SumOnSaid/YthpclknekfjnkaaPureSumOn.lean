/- Written for the statement SumOn over the program's printed functions: numbers and lists alone. -/
import Derived.Test.YthpclknekfjnkaaPSumOnx
set_option linter.unusedVariables false
set_option linter.unusedSimpArgs false
namespace Go.Proofs.Ythpclknekfjnkaa.Pure
open Go.RowKit Go.Proofs.Ythpclknekfjnkaa.PSumOn Go.Proofs.YthpclknekfjnkaaW Go.Proofs.YthpclknekfjnkaaW.PrintWords Go.Proofs.YthpclknekfjnkaaW.PrintLast Go.Proofs.YthpclknekfjnkaaW.PrintMore

theorem wrap64_id {x : Int} (h0 : -9223372036854775808 ≤ x) (h1 : x ≤ 9223372036854775807) : wrap64 x = x := by unfold wrap64; omega
theorem wu64 (n : Int) : IntKind.u64.wrap n = n % 18446744073709551616 := by simp [IntKind.wrap, IntKind.bits, IntKind.signed]
theorem wraps_u64 (n : Int) (h0 : 0 ≤ n) (h1 : n < 2 ^ 64) : IntKind.u64.wrap n = n := by rw [wu64]; omega
theorem u64_and127 {x : Int} (h0 : 0 ≤ x) (h1 : x < 18446744073709551616) : Go.bits .and .u64 x 127 = x % 128 := Go.bits_mask .u64 64 (by decide) wraps_u64 7 (by decide) x h0 h1
theorem u8_and127 {x : Int} (h0 : 0 ≤ x) (h1 : x < 256) : Go.bits .and .u8 x 127 = x % 128 := Go.bits_mask .u8 8 (by decide) Go.wraps_u8 7 (by decide) x h0 h1
theorem bits_comm_or (k : IntKind) (x y : Int) : Go.bits .or k x y = Go.bits .or k y x := by simp [Go.bits, BitVec.or_comm]
theorem u8_or_128 {x : Int} (h0 : 0 ≤ x) (h1 : x < 128) : Go.bits .or .u8 x 128 = x + 128 := by
  rw [bits_comm_or, Go.bits_join .u8 8 (by decide) Go.wraps_u8 7 128 x (by decide) (by decide) (by decide) h0 h1 (by omega)]; omega
theorem u64_join (i : Nat) {x y : Int} (hx0 : 0 ≤ x) (hx : x % 2 ^ i = 0) (hx1 : x < 18446744073709551616) (hy0 : 0 ≤ y) (hy : y < 2 ^ i) (hy1 : y < 18446744073709551616) : Go.bits .or .u64 x y = x + y :=
  Go.bits_join .u64 64 (by decide) wraps_u64 i x y hx0 hx hx1 hy0 hy hy1
theorem wf_u64 {x : Int} (h : (Lit.int .u64 x).wf = true) : 0 ≤ x ∧ x < 18446744073709551616 := by
  simp [Lit.wf, IntKind.min, IntKind.max, IntKind.bits, IntKind.signed] at h; omega
theorem wf_u8 {x : Int} (h : (Lit.int .u8 x).wf = true) : 0 ≤ x ∧ x < 256 := by
  simp [Lit.wf, IntKind.min, IntKind.max, IntKind.bits, IntKind.signed] at h; omega
theorem wf_i64 {x : Int} (h : (Lit.int .i64 x).wf = true) : -9223372036854775808 ≤ x ∧ x ≤ 9223372036854775807 := by
  simp [Lit.wf, IntKind.min, IntKind.max, IntKind.bits, IntKind.signed] at h; omega
def Byt (l : List Int) : Prop := ∀ x ∈ l, 0 ≤ x ∧ x < 256
theorem Byt.of_wf {l : List Int} (h : ∀ x ∈ l, (Lit.int .u8 x).wf = true) : Byt l := fun x hx => wf_u8 (h x hx)
theorem Byt.rd {l : List Int} (h : Byt l) (i : Int) : 0 ≤ rd l i ∧ rd l i < 256 := by
  unfold PrintWords.rd
  rw [List.getD_eq_getElem?_getD]
  cases e : l[i.toNat]? with
  | none => simp
  | some x => exact h x (List.mem_of_getElem? e)
theorem Byt.take {l : List Int} (h : Byt l) (n : Nat) : Byt (l.take n) := fun x hx => h x (List.mem_of_mem_take hx)
theorem Byt.drop {l : List Int} (h : Byt l) (n : Nat) : Byt (l.drop n) := fun x hx => h x (List.mem_of_mem_drop hx)
theorem rd_nat (l : List Int) (i : Nat) : rd l (i : Int) = l.getD i 0 := by unfold PrintWords.rd; simp
theorem rd_drop {l : List Int} {i : Nat} (h : i < l.length) : l.drop i = rd l (i : Int) :: l.drop (i + 1) := by
  rw [rd_nat, List.drop_eq_getElem_cons h]; simp [List.getD_eq_getElem?_getD, List.getElem?_eq_getElem h]

theorem u32of {n : Nat} (h : n < 2 ^ 32) : (BitVec.ofInt 32 (n : Int)).toNat = n := by
  rw [BitVec.toNat_ofInt, show ((n : Int) % ((2 ^ 32 : Nat) : Int)).toNat = n by omega]
theorem u32x {a b : Nat} (ha : a < 2 ^ 32) (hb : b < 2 ^ 32) : Go.bits .xor .u32 (a : Int) (b : Int) = ((a ^^^ b : Nat) : Int) := by
  have e : (BitVec.ofInt 32 (a : Int) ^^^ BitVec.ofInt 32 (b : Int)).toNat = a ^^^ b := by rw [BitVec.toNat_xor, u32of ha, u32of hb]
  show IntKind.u32.wrap ((BitVec.ofInt 32 (a : Int) ^^^ BitVec.ofInt 32 (b : Int)).toNat : Int) = _
  rw [e, show IntKind.u32.wrap ((a ^^^ b : Nat) : Int) = ((a ^^^ b : Nat) : Int) % 4294967296 by simp [IntKind.wrap, IntKind.bits, IntKind.signed]]
  have := Nat.xor_lt_two_pow ha hb
  omega
theorem wf_u32 {x : Int} (h : (Lit.int .u32 x).wf = true) : 0 ≤ x ∧ x < 4294967296 := by
  simp [Lit.wf, IntKind.min, IntKind.max, IntKind.bits, IntKind.signed] at h; omega
def fullN : Nat := 4294967295
theorem u32ok_of {n : Nat} (h : n < 2 ^ 32) : u32ok (n : Int) = true := by
  simp only [u32ok, Bool.and_eq_true, decide_eq_true_eq]
  omega
theorem bytesOk_of {l : List Int} (h : Byt l) : bytesOk l = true := List.all_eq_true.2 fun x hx => by
  have := h x hx
  simp only [Bool.and_eq_true, decide_eq_true_eq]
  omega
theorem feedN_lt : ∀ (l : List Int) (c : Nat), c < 2 ^ 32 → Byt l → feedN c l < 2 ^ 32
  | [], _, h, _ => h
  | x :: xs, c, h, hb => feedN_lt xs _ (inb_lt h (by have := hb x (List.mem_cons_self ..); omega)) (fun y hy => hb y (List.mem_cons_of_mem _ hy))
theorem feedN_app : ∀ (a b : List Int) (c : Nat), feedN c (a ++ b) = feedN (feedN c a) b
  | [], _, _ => rfl
  | x :: xs, b, c => feedN_app xs b _
theorem feed_some {l : List Int} (hb : Byt l) {c : Nat} (h : c < 2 ^ 32) : sum_feed.f (c : Int) l = some ((feedN c l : Nat) : Int) := by
  unfold sum_feed.f
  rw [if_pos (by rw [u32ok_of h, bytesOk_of hb]; rfl), Int.toNat_natCast]
def moreN (c : Nat) (l : List Int) : Nat := feedN (c ^^^ fullN) l ^^^ fullN
def ofN (l : List Int) : Nat := moreN 0 l
theorem full_lt : fullN < 2 ^ 32 := by decide
theorem moreN_lt {l : List Int} (hb : Byt l) {c : Nat} (h : c < 2 ^ 32) : moreN c l < 2 ^ 32 := Nat.xor_lt_two_pow (feedN_lt l _ (Nat.xor_lt_two_pow h full_lt) hb) full_lt
theorem xor_full {c : Nat} (h : c < 2 ^ 32) : Go.bits .xor .u32 4294967295 (c : Int) = ((c ^^^ fullN : Nat) : Int) := by
  rw [Nat.xor_comm]
  exact u32x full_lt h
theorem xor_full' {c : Nat} (h : c < 2 ^ 32) : Go.bits .xor .u32 (c : Int) 4294967295 = ((c ^^^ fullN : Nat) : Int) := u32x h full_lt
theorem of_some {l : List Int} (hb : Byt l) : sum_Of.f l = some ((ofN l : Nat) : Int) := by
  unfold sum_Of.f
  rw [show (4294967295 : Int) = ((fullN : Nat) : Int) from rfl, feed_some hb full_lt, Option.bind_some]
  refine congrArg some ?_
  refine (xor_full (feedN_lt l fullN full_lt hb)).trans ?_
  unfold ofN moreN
  rw [Nat.zero_xor]
theorem ofN_lt {l : List Int} (hb : Byt l) : ofN l < 2 ^ 32 := moreN_lt hb (by decide)
theorem u32_nat {x : Int} (h : 0 ≤ x ∧ x < 4294967296) : ∃ n : Nat, x = (n : Int) ∧ n < 2 ^ 32 := ⟨x.toNat, by omega, by omega⟩
theorem awake01 : Ev (fun _ => lienlaw01_awake.f) true := Ev.now true

theorem cut_some (l : List Int) (hb : Byt l) : ∃ t, lienlaw01_cut.f l = some t ∧ t.length ≤ 3000 ∧ Byt t ∧ (l.length ≤ 3000 → t = l) := by
  unfold lienlaw01_cut.f mn
  by_cases c : (3000 : Int) < (l.length : Int)
  · simp only [if_pos c]
    rw [if_pos (by decide), if_pos (by omega)]
    refine ⟨_, rfl, ?_, hb.take _, fun h => absurd h (by omega)⟩
    rw [List.length_take]
    have : ((3000 : Int)).toNat = 3000 := rfl
    omega
  · simp only [if_neg c]
    rw [if_pos (by omega), if_pos (by omega), Int.toNat_natCast, List.take_length]
    exact ⟨_, rfl, by omega, hb, fun _ => rfl⟩

theorem more_some {l : List Int} (hb : Byt l) {c : Nat} (h : c < 2 ^ 32) : sum_More.f (c : Int) l = some ((moreN c l : Nat) : Int) := by
  unfold sum_More.f
  rw [xor_full h, feed_some hb (Nat.xor_lt_two_pow h full_lt), Option.bind_some]
  exact congrArg some (xor_full (feedN_lt l _ (Nat.xor_lt_two_pow h full_lt) hb))

theorem xor_cancel (a b : Nat) : a ^^^ b ^^^ b = a := by rw [Nat.xor_assoc, Nat.xor_self, Nat.xor_zero]
theorem feedN_lin : ∀ (l : List Int) (a c : Nat), feedN (a ^^^ c) l = stn (8 * l.length) a ^^^ feedN c l
  | [], _, _ => rfl
  | x :: xs, a, c => by
    have e : inb (a ^^^ c) x.toNat = stn 8 a ^^^ inb c x.toNat := by unfold inb; rw [Nat.xor_assoc, stn_lin]
    show feedN (inb (a ^^^ c) x.toNat) xs = stn (8 * (xs.length + 1)) a ^^^ feedN (inb c x.toNat) xs
    rw [e, feedN_lin xs, show 8 * (xs.length + 1) = 8 + 8 * xs.length by omega, stn_add]
theorem length_id {n : Int} (h0 : 0 ≤ n) (h1 : n ≤ 1048576) : sum_length.f n = some n := by
  unfold sum_length.f mn mx
  by_cases c : n < 0
  · omega
  · rw [if_neg c, if_neg (by omega)]
theorem zeros_some {c : Nat} (h : c < 2 ^ 32) {n : Nat} (hn : n ≤ 1048576) : sum_zeros.f (c : Int) (n : Int) = some ((stn (8 * n) c : Nat) : Int) := by
  unfold sum_zeros.f
  rw [if_pos (by rw [u32ok_of h, decide_eq_true (show (0 : Int) ≤ (n : Int) ∧ (n : Int) ≤ 1048576 by omega)]; rfl), Int.toNat_natCast, Int.toNat_natCast]
theorem join_some {c d : Nat} (hc : c < 2 ^ 32) (hd : d < 2 ^ 32) {n : Nat} (hn : n ≤ 1048576) : sum_Join.f (c : Int) (d : Int) (n : Int) = some ((stn (8 * n) c ^^^ d : Nat) : Int) := by
  unfold sum_Join.f
  rw [length_id (by omega) (by omega), Option.bind_some, zeros_some hc hn, Option.bind_some]
  exact congrArg some (u32x (stn_lt _ hc) hd)

theorem SumOn : lienlaw01_SumOn.Pure := by
  intro l m _ _ hl _ _ hm
  obtain ⟨x, hx, hxl, hxb, _⟩ := cut_some l (Byt.of_wf hl)
  obtain ⟨y, hy, hyl, hyb, _⟩ := cut_some m (Byt.of_wf hm)
  have hb : Byt (x ++ y) := fun z hz => (List.mem_append.1 hz).elim (hxb z) (hyb z)
  have e1 : moreN (ofN x) y = ofN (x ++ y) := by
    unfold ofN moreN
    rw [xor_cancel, feedN_app]
  have e2 : stn (8 * y.length) (ofN x) ^^^ ofN y = ofN (x ++ y) := by
    rw [← e1]
    unfold moreN
    rw [feedN_lin]
    show stn (8 * y.length) (ofN x) ^^^ (feedN (0 ^^^ fullN) y ^^^ fullN) = _
    rw [Nat.zero_xor, Nat.xor_assoc]
  unfold lienlaw01_SumOn.f
  have h1 : ([] : List Int).length + x.length < 140737488355328 := by rw [List.length_nil]; omega
  have h2 : ([] ++ x : List Int).length + y.length < 140737488355328 := by rw [List.nil_append]; omega
  have j := join_some (ofN_lt hxb) (ofN_lt hyb) (show y.length ≤ 1048576 by omega)
  rw [e2] at j
  have m := more_some hyb (ofN_lt hxb)
  rw [e1] at m
  have o := of_some hb
  have o1 := of_some hxb
  have o2 := of_some hyb
  generalize ((ofN (x ++ y) : Nat) : Int) = r at j m o
  generalize ((ofN x : Nat) : Int) = p at j m o1
  generalize ((ofN y : Nat) : Int) = q at j o2
  rw [hx, Option.bind_some, hy, Option.bind_some, Option.bind_some, if_pos h1, Option.bind_some, if_pos h2, List.nil_append, o, Option.bind_some, o1, Option.bind_some, m, Option.bind_some, if_pos rfl, Option.bind_some, o2, Option.bind_some, j, Option.bind_some, if_pos rfl]
  rfl

end Go.Proofs.Ythpclknekfjnkaa.Pure
