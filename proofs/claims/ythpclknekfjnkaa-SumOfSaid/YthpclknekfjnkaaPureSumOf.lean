/- Written for the statement SumOf over the program's printed functions: numbers and lists alone. -/
import Derived.Test.YthpclknekfjnkaaPSumOfx
set_option linter.unusedVariables false
set_option linter.unusedSimpArgs false
namespace Go.Proofs.Ythpclknekfjnkaa.Pure
open Go.RowKit Go.Proofs.Ythpclknekfjnkaa.PSumOf Go.Proofs.YthpclknekfjnkaaW Go.Proofs.YthpclknekfjnkaaW.PrintWords Go.Proofs.YthpclknekfjnkaaW.PrintLast Go.Proofs.YthpclknekfjnkaaW.PrintMore

theorem wrap64_id {x : Int} (h0 : -9223372036854775808 ≤ x) (h1 : x ≤ 9223372036854775807) : wrap64 x = x := by unfold wrap64; omega
theorem wu64 (n : Int) : IntKind.u64.wrap n = n % 18446744073709551616 := by simp [IntKind.wrap, IntKind.bits, IntKind.signed]
theorem wraps_u64 (n : Int) (h0 : 0 ≤ n) (h1 : n < 2 ^ 64) : IntKind.u64.wrap n = n := by rw [wu64]; omega
theorem u64_and127 {x : Int} (h0 : 0 ≤ x) (h1 : x < 18446744073709551616) : Go.bits .and .u64 x 127 = x % 128 := Go.bits_mask .u64 64 (by decide) wraps_u64 7 (by decide) x h0 h1
theorem u8_and127 {x : Int} (h0 : 0 ≤ x) (h1 : x < 256) : Go.bits .and .u8 x 127 = x % 128 := Go.bits_mask .u8 8 (by decide) Go.wraps_u8 7 (by decide) x h0 h1
theorem bits_comm_or (k : IntKind) (x y : Int) : Go.bits .or k x y = Go.bits .or k y x := by simp [Go.bits, BitVec.or_comm]
theorem u8_or_128 {x : Int} (h0 : 0 ≤ x) (h1 : x < 128) : Go.bits .or .u8 x 128 = x + 128 := by
  rw [bits_comm_or, Go.bits_join .u8 8 (by decide) Go.wraps_u8 7 128 x (by decide) (by decide) (by decide) h0 h1 (by omega)]; omega
theorem u64_join (i : Nat) {x y : Int} (hx0 : 0 ≤ x) (hx : x % 2 ^ i = 0) (hx1 : x < 18446744073709551616) (hy0 : 0 ≤ y) (hy : y < 2 ^ i) (hy1 : y < 18446744073709551616) : Go.bits .or .u64 x y = x + y :=
  Go.bits_join .u64 64 (by decide) wraps_u64 i x y hx0 hx hx1 hy0 hy hy1
theorem wf_u64 {x : Int} (h : (Lit.int .u64 x).wf = true) : 0 ≤ x ∧ x < 18446744073709551616 := by
  simp [Lit.wf, IntKind.min, IntKind.max, IntKind.bits, IntKind.signed] at h; omega
theorem wf_u8 {x : Int} (h : (Lit.int .u8 x).wf = true) : 0 ≤ x ∧ x < 256 := by
  simp [Lit.wf, IntKind.min, IntKind.max, IntKind.bits, IntKind.signed] at h; omega
theorem wf_i64 {x : Int} (h : (Lit.int .i64 x).wf = true) : -9223372036854775808 ≤ x ∧ x ≤ 9223372036854775807 := by
  simp [Lit.wf, IntKind.min, IntKind.max, IntKind.bits, IntKind.signed] at h; omega
def Byt (l : List Int) : Prop := ∀ x ∈ l, 0 ≤ x ∧ x < 256
theorem Byt.of_wf {l : List Int} (h : ∀ x ∈ l, (Lit.int .u8 x).wf = true) : Byt l := fun x hx => wf_u8 (h x hx)
theorem Byt.rd {l : List Int} (h : Byt l) (i : Int) : 0 ≤ rd l i ∧ rd l i < 256 := by
  unfold PrintWords.rd
  rw [List.getD_eq_getElem?_getD]
  cases e : l[i.toNat]? with
  | none => simp
  | some x => exact h x (List.mem_of_getElem? e)
theorem Byt.take {l : List Int} (h : Byt l) (n : Nat) : Byt (l.take n) := fun x hx => h x (List.mem_of_mem_take hx)
theorem Byt.drop {l : List Int} (h : Byt l) (n : Nat) : Byt (l.drop n) := fun x hx => h x (List.mem_of_mem_drop hx)
theorem rd_nat (l : List Int) (i : Nat) : rd l (i : Int) = l.getD i 0 := by unfold PrintWords.rd; simp
theorem rd_drop {l : List Int} {i : Nat} (h : i < l.length) : l.drop i = rd l (i : Int) :: l.drop (i + 1) := by
  rw [rd_nat, List.drop_eq_getElem_cons h]; simp [List.getD_eq_getElem?_getD, List.getElem?_eq_getElem h]

theorem u32of {n : Nat} (h : n < 2 ^ 32) : (BitVec.ofInt 32 (n : Int)).toNat = n := by
  rw [BitVec.toNat_ofInt, show ((n : Int) % ((2 ^ 32 : Nat) : Int)).toNat = n by omega]
theorem u32x {a b : Nat} (ha : a < 2 ^ 32) (hb : b < 2 ^ 32) : Go.bits .xor .u32 (a : Int) (b : Int) = ((a ^^^ b : Nat) : Int) := by
  have e : (BitVec.ofInt 32 (a : Int) ^^^ BitVec.ofInt 32 (b : Int)).toNat = a ^^^ b := by rw [BitVec.toNat_xor, u32of ha, u32of hb]
  show IntKind.u32.wrap ((BitVec.ofInt 32 (a : Int) ^^^ BitVec.ofInt 32 (b : Int)).toNat : Int) = _
  rw [e, show IntKind.u32.wrap ((a ^^^ b : Nat) : Int) = ((a ^^^ b : Nat) : Int) % 4294967296 by simp [IntKind.wrap, IntKind.bits, IntKind.signed]]
  have := Nat.xor_lt_two_pow ha hb
  omega
theorem wf_u32 {x : Int} (h : (Lit.int .u32 x).wf = true) : 0 ≤ x ∧ x < 4294967296 := by
  simp [Lit.wf, IntKind.min, IntKind.max, IntKind.bits, IntKind.signed] at h; omega
def fullN : Nat := 4294967295
theorem u32ok_of {n : Nat} (h : n < 2 ^ 32) : u32ok (n : Int) = true := by
  simp only [u32ok, Bool.and_eq_true, decide_eq_true_eq]
  omega
theorem bytesOk_of {l : List Int} (h : Byt l) : bytesOk l = true := List.all_eq_true.2 fun x hx => by
  have := h x hx
  simp only [Bool.and_eq_true, decide_eq_true_eq]
  omega
theorem feedN_lt : ∀ (l : List Int) (c : Nat), c < 2 ^ 32 → Byt l → feedN c l < 2 ^ 32
  | [], _, h, _ => h
  | x :: xs, c, h, hb => feedN_lt xs _ (inb_lt h (by have := hb x (List.mem_cons_self ..); omega)) (fun y hy => hb y (List.mem_cons_of_mem _ hy))
theorem feedN_app : ∀ (a b : List Int) (c : Nat), feedN c (a ++ b) = feedN (feedN c a) b
  | [], _, _ => rfl
  | x :: xs, b, c => feedN_app xs b _
theorem feed_some {l : List Int} (hb : Byt l) {c : Nat} (h : c < 2 ^ 32) : sum_feed.f (c : Int) l = some ((feedN c l : Nat) : Int) := by
  unfold sum_feed.f
  rw [if_pos (by rw [u32ok_of h, bytesOk_of hb]; rfl), Int.toNat_natCast]
def moreN (c : Nat) (l : List Int) : Nat := feedN (c ^^^ fullN) l ^^^ fullN
def ofN (l : List Int) : Nat := moreN 0 l
theorem full_lt : fullN < 2 ^ 32 := by decide
theorem moreN_lt {l : List Int} (hb : Byt l) {c : Nat} (h : c < 2 ^ 32) : moreN c l < 2 ^ 32 := Nat.xor_lt_two_pow (feedN_lt l _ (Nat.xor_lt_two_pow h full_lt) hb) full_lt
theorem xor_full {c : Nat} (h : c < 2 ^ 32) : Go.bits .xor .u32 4294967295 (c : Int) = ((c ^^^ fullN : Nat) : Int) := by
  rw [Nat.xor_comm]
  exact u32x full_lt h
theorem xor_full' {c : Nat} (h : c < 2 ^ 32) : Go.bits .xor .u32 (c : Int) 4294967295 = ((c ^^^ fullN : Nat) : Int) := u32x h full_lt
theorem of_some {l : List Int} (hb : Byt l) : sum_Of.f l = some ((ofN l : Nat) : Int) := by
  unfold sum_Of.f
  rw [show (4294967295 : Int) = ((fullN : Nat) : Int) from rfl, feed_some hb full_lt, Option.bind_some]
  refine congrArg some ?_
  refine (xor_full (feedN_lt l fullN full_lt hb)).trans ?_
  unfold ofN moreN
  rw [Nat.zero_xor]
theorem ofN_lt {l : List Int} (hb : Byt l) : ofN l < 2 ^ 32 := moreN_lt hb (by decide)
theorem u32_nat {x : Int} (h : 0 ≤ x ∧ x < 4294967296) : ∃ n : Nat, x = (n : Int) ∧ n < 2 ^ 32 := ⟨x.toNat, by omega, by omega⟩
theorem awake01 : Ev (fun _ => lienlaw01_awake.f) true := Ev.now true

theorem cut_some (l : List Int) (hb : Byt l) : ∃ t, lienlaw01_cut.f l = some t ∧ t.length ≤ 3000 ∧ Byt t ∧ (l.length ≤ 3000 → t = l) := by
  unfold lienlaw01_cut.f mn
  by_cases c : (3000 : Int) < (l.length : Int)
  · simp only [if_pos c]
    rw [if_pos (by decide), if_pos (by omega)]
    refine ⟨_, rfl, ?_, hb.take _, fun h => absurd h (by omega)⟩
    rw [List.length_take]
    have : ((3000 : Int)).toNat = 3000 := rfl
    omega
  · simp only [if_neg c]
    rw [if_pos (by omega), if_pos (by omega), Int.toNat_natCast, List.take_length]
    exact ⟨_, rfl, by omega, hb, fun _ => rfl⟩

theorem more_some {l : List Int} (hb : Byt l) {c : Nat} (h : c < 2 ^ 32) : sum_More.f (c : Int) l = some ((moreN c l : Nat) : Int) := by
  unfold sum_More.f
  rw [xor_full h, feed_some hb (Nat.xor_lt_two_pow h full_lt), Option.bind_some]
  exact congrArg some (xor_full (feedN_lt l _ (Nat.xor_lt_two_pow h full_lt) hb))

theorem step_some {c : Nat} (h : c < 2 ^ 32) : lienref01_step.f (c : Int) = some ((st c : Nat) : Int) := by
  unfold lienref01_step.f
  have w1 : Int.tmod (c : Int) 2 = ((c % 2 : Nat) : Int) := by rw [Int.tmod_eq_emod_of_nonneg (by omega)]; omega
  have w2 : Int.tdiv (c : Int) 2 % 4294967296 = ((c / 2 : Nat) : Int) := by rw [Int.tdiv_eq_ediv_of_nonneg (by omega)]; omega
  rw [w1, w2]
  unfold st
  by_cases e : c % 2 = 1
  · rw [if_pos (by omega), if_pos e]
    exact congrArg some (u32x (a := c / 2) (b := crcP) (by omega) (by decide))
  · rw [if_neg (by omega), if_neg e]
theorem ref_in_l0 : ∀ (d i : Nat) (c : Nat), c < 2 ^ 32 → i + d = 8 → ∀ k, d + 1 ≤ k → lienref01_in.l0 k (c : Int) (i : Int) = some ((stn d c : Nat) : Int)
  | 0, i, c, h, hi, k, hk => by
    obtain ⟨k, rfl⟩ : ∃ m, k = m + 1 := ⟨k - 1, by omega⟩
    rw [lienref01_in.l0, if_neg (by omega)]
    rfl
  | d + 1, i, c, h, hi, k, hk => by
    obtain ⟨k, rfl⟩ : ∃ m, k = m + 1 := ⟨k - 1, by omega⟩
    rw [lienref01_in.l0, if_pos (by omega), step_some h, Option.bind_some, wrap64_id (by omega) (by omega), show ((i : Int) + 1) = ((i + 1 : Nat) : Int) by omega]
    exact ref_in_l0 d (i + 1) (st c) (st_lt h) (by omega) k (by omega)
theorem ref_in_at {c x : Nat} (h : c < 2 ^ 32) (hx : x < 256) (k : Nat) (hk : 9 ≤ k) : lienref01_in.f k (c : Int) (x : Int) = some ((inb c x : Nat) : Int) := by
  unfold lienref01_in.f
  rw [show (x : Int) % 4294967296 = (x : Int) by omega, u32x h (by omega)]
  exact ref_in_l0 8 0 _ (Nat.xor_lt_two_pow h (by omega)) rfl k hk
theorem ref_in_ev {c x : Nat} (h : c < 2 ^ 32) (hx : x < 256) : Ev (fun k => lienref01_in.f k (c : Int) (x : Int)) ((inb c x : Nat) : Int) := ⟨9, fun k hk => ref_in_at h hx k hk⟩

theorem ref_More_l0 (l : List Int) (hb : Byt l) (hl : l.length ≤ 100000) : ∀ (d i c : Nat), c < 2 ^ 32 → i + d = l.length → Ev (fun k => lienref01_More.l0 k (c : Int) l (i : Int)) ((feedN c (l.drop i) ^^^ fullN : Nat) : Int)
  | 0, i, c, h, hi => by
    refine Ev.step (fun k => by rw [lienref01_More.l0]) ?_
    simp only [if_neg (show ¬ (i : Int) < (l.length : Int) by omega)]
    rw [List.drop_eq_nil_of_le (by omega), xor_full' h]
    exact Ev.now _
  | d + 1, i, c, h, hi => by
    have hlt : i < l.length := by omega
    refine Ev.step (fun k => by rw [lienref01_More.l0]) ?_
    simp only [if_pos (show (i : Int) < (l.length : Int) by omega), if_pos (show (0 : Int) ≤ (i : Int) by omega)]
    obtain ⟨x, hx, hx2⟩ : ∃ x : Nat, rd l (i : Int) = (x : Int) ∧ x < 256 := ⟨(rd l (i : Int)).toNat, by have := hb.rd (i : Int); omega, by have := hb.rd (i : Int); omega⟩
    rw [rd_drop hlt, hx]
    refine Ev.bind (ref_in_ev h hx2) ?_
    rw [show wrap64 ((i : Int) + 1) = ((i + 1 : Nat) : Int) by rw [wrap64_id (by omega) (by omega)]; omega]
    exact ref_More_l0 l hb hl d (i + 1) (inb c x) (inb_lt h hx2) (by omega)
theorem ref_More_ev {l : List Int} (hb : Byt l) (hl : l.length ≤ 100000) {c : Nat} (h : c < 2 ^ 32) : Ev (fun k => lienref01_More.f k (c : Int) l) ((moreN c l : Nat) : Int) := by
  unfold lienref01_More.f
  rw [xor_full' h]
  exact ref_More_l0 l hb hl l.length 0 _ (Nat.xor_lt_two_pow h full_lt) (by omega)
theorem ref_Of_ev {l : List Int} (hb : Byt l) (hl : l.length ≤ 100000) : Ev (fun k => lienref01_Of.f k l) ((ofN l : Nat) : Int) := by
  unfold lienref01_Of.f
  exact Ev.bind (ref_More_ev hb hl (c := 0) (by decide)) (Ev.now _)

theorem SumOf : lienlaw01_SumOf.Pure := by
  intro l c _ _ hw hc
  obtain ⟨n, rfl, hn⟩ := u32_nat (wf_u32 hc)
  obtain ⟨t, ht, hl, hb, _⟩ := cut_some l (Byt.of_wf hw)
  refine Ev.rounds ?_
  unfold lienlaw01_SumOf.f
  simp only [ht, of_some hb, more_some hb hn, Option.bind_some]
  refine Ev.bind (ref_Of_ev hb (by omega)) ?_
  simp only [if_true]
  refine Ev.bind (ref_More_ev hb (by omega) hn) ?_
  simp only [if_true]
  exact Ev.bind awake01 (Ev.now true)

end Go.Proofs.Ythpclknekfjnkaa.Pure
