/- Written for the statement SumSeals over the program's printed functions: numbers and lists alone. -/
import Derived.Test.YthpclknekfjnkaaPSumSealsx
set_option linter.unusedVariables false
set_option linter.unusedSimpArgs false
namespace Go.Proofs.Ythpclknekfjnkaa.Pure
open Go.RowKit Go.Proofs.Ythpclknekfjnkaa.PSumSeals Go.Proofs.YthpclknekfjnkaaW Go.Proofs.YthpclknekfjnkaaW.PrintWords Go.Proofs.YthpclknekfjnkaaW.PrintLast Go.Proofs.YthpclknekfjnkaaW.PrintMore

theorem wrap64_id {x : Int} (h0 : -9223372036854775808 ≤ x) (h1 : x ≤ 9223372036854775807) : wrap64 x = x := by unfold wrap64; omega
theorem wu64 (n : Int) : IntKind.u64.wrap n = n % 18446744073709551616 := by simp [IntKind.wrap, IntKind.bits, IntKind.signed]
theorem wraps_u64 (n : Int) (h0 : 0 ≤ n) (h1 : n < 2 ^ 64) : IntKind.u64.wrap n = n := by rw [wu64]; omega
theorem u64_and127 {x : Int} (h0 : 0 ≤ x) (h1 : x < 18446744073709551616) : Go.bits .and .u64 x 127 = x % 128 := Go.bits_mask .u64 64 (by decide) wraps_u64 7 (by decide) x h0 h1
theorem u8_and127 {x : Int} (h0 : 0 ≤ x) (h1 : x < 256) : Go.bits .and .u8 x 127 = x % 128 := Go.bits_mask .u8 8 (by decide) Go.wraps_u8 7 (by decide) x h0 h1
theorem bits_comm_or (k : IntKind) (x y : Int) : Go.bits .or k x y = Go.bits .or k y x := by simp [Go.bits, BitVec.or_comm]
theorem u8_or_128 {x : Int} (h0 : 0 ≤ x) (h1 : x < 128) : Go.bits .or .u8 x 128 = x + 128 := by
  rw [bits_comm_or, Go.bits_join .u8 8 (by decide) Go.wraps_u8 7 128 x (by decide) (by decide) (by decide) h0 h1 (by omega)]; omega
theorem u64_join (i : Nat) {x y : Int} (hx0 : 0 ≤ x) (hx : x % 2 ^ i = 0) (hx1 : x < 18446744073709551616) (hy0 : 0 ≤ y) (hy : y < 2 ^ i) (hy1 : y < 18446744073709551616) : Go.bits .or .u64 x y = x + y :=
  Go.bits_join .u64 64 (by decide) wraps_u64 i x y hx0 hx hx1 hy0 hy hy1
theorem wf_u64 {x : Int} (h : (Lit.int .u64 x).wf = true) : 0 ≤ x ∧ x < 18446744073709551616 := by
  simp [Lit.wf, IntKind.min, IntKind.max, IntKind.bits, IntKind.signed] at h; omega
theorem wf_u8 {x : Int} (h : (Lit.int .u8 x).wf = true) : 0 ≤ x ∧ x < 256 := by
  simp [Lit.wf, IntKind.min, IntKind.max, IntKind.bits, IntKind.signed] at h; omega
theorem wf_i64 {x : Int} (h : (Lit.int .i64 x).wf = true) : -9223372036854775808 ≤ x ∧ x ≤ 9223372036854775807 := by
  simp [Lit.wf, IntKind.min, IntKind.max, IntKind.bits, IntKind.signed] at h; omega
def Byt (l : List Int) : Prop := ∀ x ∈ l, 0 ≤ x ∧ x < 256
theorem Byt.of_wf {l : List Int} (h : ∀ x ∈ l, (Lit.int .u8 x).wf = true) : Byt l := fun x hx => wf_u8 (h x hx)
theorem Byt.rd {l : List Int} (h : Byt l) (i : Int) : 0 ≤ rd l i ∧ rd l i < 256 := by
  unfold PrintWords.rd
  rw [List.getD_eq_getElem?_getD]
  cases e : l[i.toNat]? with
  | none => simp
  | some x => exact h x (List.mem_of_getElem? e)
theorem Byt.take {l : List Int} (h : Byt l) (n : Nat) : Byt (l.take n) := fun x hx => h x (List.mem_of_mem_take hx)
theorem Byt.drop {l : List Int} (h : Byt l) (n : Nat) : Byt (l.drop n) := fun x hx => h x (List.mem_of_mem_drop hx)
theorem rd_nat (l : List Int) (i : Nat) : rd l (i : Int) = l.getD i 0 := by unfold PrintWords.rd; simp
theorem rd_drop {l : List Int} {i : Nat} (h : i < l.length) : l.drop i = rd l (i : Int) :: l.drop (i + 1) := by
  rw [rd_nat, List.drop_eq_getElem_cons h]; simp [List.getD_eq_getElem?_getD, List.getElem?_eq_getElem h]

theorem bl_eq (s : ByteArray) : s.toList = s.data.toList := ByteArray.toList_eq s
theorem ba_ext {a b : ByteArray} (h : a.toList = b.toList) : a = b := by
  rw [bl_eq, bl_eq] at h
  exact ByteArray.ext (Array.toList_inj.mp h)
theorem bl_len (s : ByteArray) : s.toList.length = s.size := by rw [bl_eq, Array.length_toList]; rfl
theorem bl_append (a b : ByteArray) : (a ++ b).toList = a.toList ++ b.toList := by rw [bl_eq, bl_eq, bl_eq, ByteArray.data_append, Array.toList_append]
theorem bl_extract (a : ByteArray) (i j : Nat) : (a.extract i j).toList = (a.toList.take j).drop i := by
  rw [bl_eq, bl_eq, ByteArray.data_extract, Array.toList_extract, List.extract_eq_take_drop, List.drop_take]
theorem bl_nums (xs : List Int) : (strOfNums xs).toList = xs.map fun n => UInt8.ofNat n.toNat := by rw [bl_eq]; rfl
theorem bt_nat (s : ByteArray) (i : Nat) (h : i < s.size) : bt s (i : Int) = ((s.toList[i]'(by rw [bl_len]; exact h)).toNat : Int) := by
  unfold PrintWords.bt
  rw [dif_pos (by simpa using h)]
  simp only [Int.toNat_natCast, bl_eq]
  rfl
theorem bl_bytesOf (s : ByteArray) : bytesOf s = s.toList.map fun b => (b.toNat : Int) := by unfold PrintWords.bytesOf; rw [bl_eq]
theorem less_app (p x y : List UInt8) : Op.bytesLess (p ++ x) (p ++ y) = Op.bytesLess x y := by
  induction p with
  | nil => rfl
  | cons c t ih => simp [Op.bytesLess, ih, UInt8.lt_irrefl]
theorem less_next {c d : UInt8} (h : c.toNat < d.toNat) (x y : List UInt8) : Op.bytesLess (c :: x) (d :: y) = true := by
  simp only [Op.bytesLess]
  rw [decide_eq_true (UInt8.lt_iff_toNat_lt.mpr h)]
  rfl

theorem byt_back {xs : List Int} (h : Byt xs) : (xs.map fun n => ((UInt8.ofNat n.toNat).toNat : Int)) = xs := by
  induction xs with
  | nil => rfl
  | cons c t ih =>
    have hc := h c (List.mem_cons_self ..)
    rw [List.map_cons, ih (fun x hx => h x (List.mem_cons_of_mem _ hx)), UInt8.toNat_ofNat']
    congr 1
    omega
theorem bytesOf_nums {xs : List Int} (h : Byt xs) : bytesOf (strOfNums xs) = xs := by
  rw [bl_bytesOf, bl_nums, List.map_map]
  exact byt_back h
theorem nums_bytesOf (s : ByteArray) : strOfNums (bytesOf s) = s := by
  apply ba_ext
  rw [bl_nums, bl_bytesOf, List.map_map]
  conv => rhs; rw [← List.map_id s.toList]
  apply List.map_congr_left
  intro b _
  simp
theorem nums_size (xs : List Int) : (strOfNums xs).size = xs.length := by rw [← bl_len, bl_nums, List.length_map]
theorem strs_byt (s : ByteArray) : Byt (bytesOf s) := by
  intro x hx
  rw [bl_bytesOf] at hx
  obtain ⟨b, _, rfl⟩ := List.mem_map.mp hx
  have := b.toNat_lt
  omega

theorem u32of {n : Nat} (h : n < 2 ^ 32) : (BitVec.ofInt 32 (n : Int)).toNat = n := by
  rw [BitVec.toNat_ofInt, show ((n : Int) % ((2 ^ 32 : Nat) : Int)).toNat = n by omega]
theorem u32x {a b : Nat} (ha : a < 2 ^ 32) (hb : b < 2 ^ 32) : Go.bits .xor .u32 (a : Int) (b : Int) = ((a ^^^ b : Nat) : Int) := by
  have e : (BitVec.ofInt 32 (a : Int) ^^^ BitVec.ofInt 32 (b : Int)).toNat = a ^^^ b := by rw [BitVec.toNat_xor, u32of ha, u32of hb]
  show IntKind.u32.wrap ((BitVec.ofInt 32 (a : Int) ^^^ BitVec.ofInt 32 (b : Int)).toNat : Int) = _
  rw [e, show IntKind.u32.wrap ((a ^^^ b : Nat) : Int) = ((a ^^^ b : Nat) : Int) % 4294967296 by simp [IntKind.wrap, IntKind.bits, IntKind.signed]]
  have := Nat.xor_lt_two_pow ha hb
  omega
theorem wf_u32 {x : Int} (h : (Lit.int .u32 x).wf = true) : 0 ≤ x ∧ x < 4294967296 := by
  simp [Lit.wf, IntKind.min, IntKind.max, IntKind.bits, IntKind.signed] at h; omega
def fullN : Nat := 4294967295
theorem u32ok_of {n : Nat} (h : n < 2 ^ 32) : u32ok (n : Int) = true := by
  simp only [u32ok, Bool.and_eq_true, decide_eq_true_eq]
  omega
theorem bytesOk_of {l : List Int} (h : Byt l) : bytesOk l = true := List.all_eq_true.2 fun x hx => by
  have := h x hx
  simp only [Bool.and_eq_true, decide_eq_true_eq]
  omega
theorem feedN_lt : ∀ (l : List Int) (c : Nat), c < 2 ^ 32 → Byt l → feedN c l < 2 ^ 32
  | [], _, h, _ => h
  | x :: xs, c, h, hb => feedN_lt xs _ (inb_lt h (by have := hb x (List.mem_cons_self ..); omega)) (fun y hy => hb y (List.mem_cons_of_mem _ hy))
theorem feedN_app : ∀ (a b : List Int) (c : Nat), feedN c (a ++ b) = feedN (feedN c a) b
  | [], _, _ => rfl
  | x :: xs, b, c => feedN_app xs b _
theorem feed_some {l : List Int} (hb : Byt l) {c : Nat} (h : c < 2 ^ 32) : sum_feed.f (c : Int) l = some ((feedN c l : Nat) : Int) := by
  unfold sum_feed.f
  rw [if_pos (by rw [u32ok_of h, bytesOk_of hb]; rfl), Int.toNat_natCast]
def moreN (c : Nat) (l : List Int) : Nat := feedN (c ^^^ fullN) l ^^^ fullN
def ofN (l : List Int) : Nat := moreN 0 l
theorem full_lt : fullN < 2 ^ 32 := by decide
theorem moreN_lt {l : List Int} (hb : Byt l) {c : Nat} (h : c < 2 ^ 32) : moreN c l < 2 ^ 32 := Nat.xor_lt_two_pow (feedN_lt l _ (Nat.xor_lt_two_pow h full_lt) hb) full_lt
theorem xor_full {c : Nat} (h : c < 2 ^ 32) : Go.bits .xor .u32 4294967295 (c : Int) = ((c ^^^ fullN : Nat) : Int) := by
  rw [Nat.xor_comm]
  exact u32x full_lt h
theorem xor_full' {c : Nat} (h : c < 2 ^ 32) : Go.bits .xor .u32 (c : Int) 4294967295 = ((c ^^^ fullN : Nat) : Int) := u32x h full_lt
theorem of_some {l : List Int} (hb : Byt l) : sum_Of.f l = some ((ofN l : Nat) : Int) := by
  unfold sum_Of.f
  rw [show (4294967295 : Int) = ((fullN : Nat) : Int) from rfl, feed_some hb full_lt, Option.bind_some]
  refine congrArg some ?_
  refine (xor_full (feedN_lt l fullN full_lt hb)).trans ?_
  unfold ofN moreN
  rw [Nat.zero_xor]
theorem ofN_lt {l : List Int} (hb : Byt l) : ofN l < 2 ^ 32 := moreN_lt hb (by decide)
theorem u32_nat {x : Int} (h : 0 ≤ x ∧ x < 4294967296) : ∃ n : Nat, x = (n : Int) ∧ n < 2 ^ 32 := ⟨x.toNat, by omega, by omega⟩
theorem awake01 : Ev (fun _ => lienlaw01_awake.f) true := Ev.now true

theorem cut_some (l : List Int) (hb : Byt l) : ∃ t, lienlaw01_cut.f l = some t ∧ t.length ≤ 3000 ∧ Byt t ∧ (l.length ≤ 3000 → t = l) := by
  unfold lienlaw01_cut.f mn
  by_cases c : (3000 : Int) < (l.length : Int)
  · simp only [if_pos c]
    rw [if_pos (by decide), if_pos (by omega)]
    refine ⟨_, rfl, ?_, hb.take _, fun h => absurd h (by omega)⟩
    rw [List.length_take]
    have : ((3000 : Int)).toNat = 3000 := rfl
    omega
  · simp only [if_neg c]
    rw [if_pos (by omega), if_pos (by omega), Int.toNat_natCast, List.take_length]
    exact ⟨_, rfl, by omega, hb, fun _ => rfl⟩

theorem step_some {c : Nat} (h : c < 2 ^ 32) : lienref01_step.f (c : Int) = some ((st c : Nat) : Int) := by
  unfold lienref01_step.f
  have w1 : Int.tmod (c : Int) 2 = ((c % 2 : Nat) : Int) := by rw [Int.tmod_eq_emod_of_nonneg (by omega)]; omega
  have w2 : Int.tdiv (c : Int) 2 % 4294967296 = ((c / 2 : Nat) : Int) := by rw [Int.tdiv_eq_ediv_of_nonneg (by omega)]; omega
  rw [w1, w2]
  unfold st
  by_cases e : c % 2 = 1
  · rw [if_pos (by omega), if_pos e]
    exact congrArg some (u32x (a := c / 2) (b := crcP) (by omega) (by decide))
  · rw [if_neg (by omega), if_neg e]
theorem ref_in_l0 : ∀ (d i : Nat) (c : Nat), c < 2 ^ 32 → i + d = 8 → ∀ k, d + 1 ≤ k → lienref01_in.l0 k (c : Int) (i : Int) = some ((stn d c : Nat) : Int)
  | 0, i, c, h, hi, k, hk => by
    obtain ⟨k, rfl⟩ : ∃ m, k = m + 1 := ⟨k - 1, by omega⟩
    rw [lienref01_in.l0, if_neg (by omega)]
    rfl
  | d + 1, i, c, h, hi, k, hk => by
    obtain ⟨k, rfl⟩ : ∃ m, k = m + 1 := ⟨k - 1, by omega⟩
    rw [lienref01_in.l0, if_pos (by omega), step_some h, Option.bind_some, wrap64_id (by omega) (by omega), show ((i : Int) + 1) = ((i + 1 : Nat) : Int) by omega]
    exact ref_in_l0 d (i + 1) (st c) (st_lt h) (by omega) k (by omega)
theorem ref_in_at {c x : Nat} (h : c < 2 ^ 32) (hx : x < 256) (k : Nat) (hk : 9 ≤ k) : lienref01_in.f k (c : Int) (x : Int) = some ((inb c x : Nat) : Int) := by
  unfold lienref01_in.f
  rw [show (x : Int) % 4294967296 = (x : Int) by omega, u32x h (by omega)]
  exact ref_in_l0 8 0 _ (Nat.xor_lt_two_pow h (by omega)) rfl k hk
theorem ref_in_ev {c x : Nat} (h : c < 2 ^ 32) (hx : x < 256) : Ev (fun k => lienref01_in.f k (c : Int) (x : Int)) ((inb c x : Nat) : Int) := ⟨9, fun k hk => ref_in_at h hx k hk⟩

theorem ref_More_l0 (l : List Int) (hb : Byt l) (hl : l.length ≤ 100000) : ∀ (d i c : Nat), c < 2 ^ 32 → i + d = l.length → Ev (fun k => lienref01_More.l0 k (c : Int) l (i : Int)) ((feedN c (l.drop i) ^^^ fullN : Nat) : Int)
  | 0, i, c, h, hi => by
    refine Ev.step (fun k => by rw [lienref01_More.l0]) ?_
    simp only [if_neg (show ¬ (i : Int) < (l.length : Int) by omega)]
    rw [List.drop_eq_nil_of_le (by omega), xor_full' h]
    exact Ev.now _
  | d + 1, i, c, h, hi => by
    have hlt : i < l.length := by omega
    refine Ev.step (fun k => by rw [lienref01_More.l0]) ?_
    simp only [if_pos (show (i : Int) < (l.length : Int) by omega), if_pos (show (0 : Int) ≤ (i : Int) by omega)]
    obtain ⟨x, hx, hx2⟩ : ∃ x : Nat, rd l (i : Int) = (x : Int) ∧ x < 256 := ⟨(rd l (i : Int)).toNat, by have := hb.rd (i : Int); omega, by have := hb.rd (i : Int); omega⟩
    rw [rd_drop hlt, hx]
    refine Ev.bind (ref_in_ev h hx2) ?_
    rw [show wrap64 ((i : Int) + 1) = ((i + 1 : Nat) : Int) by rw [wrap64_id (by omega) (by omega)]; omega]
    exact ref_More_l0 l hb hl d (i + 1) (inb c x) (inb_lt h hx2) (by omega)
theorem ref_More_ev {l : List Int} (hb : Byt l) (hl : l.length ≤ 100000) {c : Nat} (h : c < 2 ^ 32) : Ev (fun k => lienref01_More.f k (c : Int) l) ((moreN c l : Nat) : Int) := by
  unfold lienref01_More.f
  rw [xor_full' h]
  exact ref_More_l0 l hb hl l.length 0 _ (Nat.xor_lt_two_pow h full_lt) (by omega)
theorem ref_Of_ev {l : List Int} (hb : Byt l) (hl : l.length ≤ 100000) : Ev (fun k => lienref01_Of.f k l) ((ofN l : Nat) : Int) := by
  unfold lienref01_Of.f
  exact Ev.bind (ref_More_ev hb hl (c := 0) (by decide)) (Ev.now _)

def le4 (c : Nat) : List Int := [((c % 256 : Nat) : Int), ((c / 256 % 256 : Nat) : Int), ((c / 65536 % 256 : Nat) : Int), ((c / 16777216 % 256 : Nat) : Int)]
def sealN (l : List Int) : List Int := l ++ le4 (ofN l)
theorem shr_at (c : Nat) (i : Nat) (hi : i ≤ 32) : shr .u32 (c : Int) (i : Int) = ((c / 2 ^ i : Nat) : Int) := by
  unfold shr
  rw [Int.toNat_natCast, show min i IntKind.u32.bits = i by have : IntKind.u32.bits = 32 := rfl; omega]
  simp
theorem shr_byte (c : Nat) (i : Nat) (hi : i < 4) : shr .u32 (c : Int) (wrap64 (8 * (i : Int))) % 256 = (le4 c).getD i 0 := by
  rw [wrap64_id (by omega) (by omega), show (8 * (i : Int)) = ((8 * i : Nat) : Int) by omega, shr_at c (8 * i) (by omega)]
  have h4 : i = 0 ∨ i = 1 ∨ i = 2 ∨ i = 3 := by omega
  rcases h4 with rfl | rfl | rfl | rfl
  · show ((c / 1 : Nat) : Int) % 256 = ((c % 256 : Nat) : Int); omega
  · show ((c / 256 : Nat) : Int) % 256 = ((c / 256 % 256 : Nat) : Int); omega
  · show ((c / 65536 : Nat) : Int) % 256 = ((c / 65536 % 256 : Nat) : Int); omega
  · show ((c / 16777216 : Nat) : Int) % 256 = ((c / 16777216 % 256 : Nat) : Int); omega
theorem le4_len (c : Nat) : (le4 c).length = 4 := rfl
theorem le4_byt (c : Nat) : Byt (le4 c) := fun x hx => by
  simp only [le4, List.mem_cons, List.not_mem_nil, or_false] at hx
  rcases hx with rfl | rfl | rfl | rfl <;> omega
theorem Seal_l0 (c : Nat) (acc : List Int) (hl : acc.length ≤ 100000) : ∀ (d i : Nat), i + d = 4 → ∀ k, d + 1 ≤ k → sum_Seal.l0 k (c : Int) (acc ++ (le4 c).take i) (i : Int) = some (acc ++ le4 c)
  | 0, i, hi, k, hk => by
    obtain ⟨k, rfl⟩ : ∃ m, k = m + 1 := ⟨k - 1, by omega⟩
    have : i = 4 := by omega
    subst this
    rw [sum_Seal.l0, if_neg (by omega)]
    rfl
  | d + 1, i, hi, k, hk => by
    obtain ⟨k, rfl⟩ : ∃ m, k = m + 1 := ⟨k - 1, by omega⟩
    have ht : (le4 c).take (i + 1) = (le4 c).take i ++ [(le4 c).getD i 0] := by
      have h4 : i = 0 ∨ i = 1 ∨ i = 2 ∨ i = 3 := by omega
      rcases h4 with rfl | rfl | rfl | rfl <;> rfl
    rw [sum_Seal.l0, if_pos (by omega), if_pos (by rw [wrap64_id (by omega) (by omega)]; omega), if_pos (by rw [List.length_append, List.length_take, le4_len]; omega), shr_byte c i (by omega), List.append_assoc, ← ht, wrap64_id (by omega) (by omega), show ((i : Int) + 1) = ((i + 1 : Nat) : Int) by omega]
    exact Seal_l0 c acc hl d (i + 1) (by omega) k (by omega)
theorem Seal_ev {l : List Int} (hb : Byt l) (hl : l.length ≤ 100000) : Ev (fun k => sum_Seal.f k l) (sealN l) := ⟨5, fun k hk => by
  show sum_Seal.f k l = some (sealN l)
  unfold sum_Seal.f
  simp only [of_some hb, Option.bind_some, List.nil_append, List.length_nil]
  rw [if_pos (by omega)]
  have q := Seal_l0 (ofN l) l hl 4 0 rfl k hk
  rw [List.take_zero, List.append_nil] at q
  exact q⟩
theorem sealN_len (l : List Int) : (sealN l).length = l.length + 4 := by unfold sealN; rw [List.length_append, le4_len]
theorem sealN_byt {l : List Int} (hb : Byt l) : Byt (sealN l) := fun x hx => (List.mem_append.1 hx).elim (hb x) (le4_byt _ x)
theorem rd_at (l : List Int) (i : Nat) : rd l (i : Int) = l.getD i 0 := rd_nat l i
theorem split4 (l : List Int) (n : Nat) (h : l.length = n + 4) : l = l.take n ++ [rd l ((n + 0 : Nat) : Int), rd l ((n + 1 : Nat) : Int), rd l ((n + 2 : Nat) : Int), rd l ((n + 3 : Nat) : Int)] := by
  have e : l.drop n = [rd l ((n + 0 : Nat) : Int), rd l ((n + 1 : Nat) : Int), rd l ((n + 2 : Nat) : Int), rd l ((n + 3 : Nat) : Int)] := by
    rw [rd_drop (by omega), rd_drop (show n + 1 < l.length by omega), rd_drop (show n + 1 + 1 < l.length by omega), rd_drop (show n + 1 + 1 + 1 < l.length by omega), List.drop_eq_nil_of_le (by omega)]
    rfl
  rw [← e, List.take_append_drop]
/-- What Open says: the bytes, where the sum behind them is theirs. -/
def openN (l : List Int) : List Int × Int := if l.length < 4 then ([], 10) else if sealN (l.take (l.length - 4)) = l then (l.take (l.length - 4), 0) else ([], 10)
open Classical in
theorem Open_l0 (l : List Int) (n c : Nat) (hn : l.length = n + 4) (hl : l.length ≤ 100000) : ∀ (d i : Nat), i + d = 4 → ∀ k, d + 1 ≤ k → sum_Open.l0 k l (n : Int) (c : Int) (i : Int) = some (if ∀ j, i ≤ j → j < 4 → rd l ((n + j : Nat) : Int) = (le4 c).getD j 0 then (l.take n, 0) else ([], 10))
  | 0, i, hi, k, hk => by
    obtain ⟨k, rfl⟩ : ∃ m, k = m + 1 := ⟨k - 1, by omega⟩
    rw [sum_Open.l0, if_neg (by omega), Option.bind_some, if_pos (by omega), if_pos (by omega), if_pos (by rw [List.length_nil, List.length_take]; omega), Int.toNat_natCast, List.nil_append, if_pos (fun j h1 h2 => by omega)]
  | d + 1, i, hi, k, hk => by
    obtain ⟨k, rfl⟩ : ∃ m, k = m + 1 := ⟨k - 1, by omega⟩
    rw [sum_Open.l0, if_pos (by omega), wrap64_id (x := (n : Int) + (i : Int)) (by omega) (by omega), if_pos (by omega), if_pos (by omega), if_pos (by rw [wrap64_id (by omega) (by omega)]; omega), shr_byte c i (by omega), show (n : Int) + (i : Int) = ((n + i : Nat) : Int) by omega]
    by_cases e : rd l ((n + i : Nat) : Int) = (le4 c).getD i 0
    · rw [if_pos e, wrap64_id (by omega) (by omega), show ((i : Int) + 1) = ((i + 1 : Nat) : Int) by omega, Open_l0 l n c hn hl d (i + 1) (by omega) k (by omega)]
      refine congrArg some ?_
      by_cases a : ∀ j, i + 1 ≤ j → j < 4 → rd l ((n + j : Nat) : Int) = (le4 c).getD j 0
      · rw [if_pos a, if_pos (fun j h1 h2 => by
          by_cases q : j = i
          · rw [q]; exact e
          · exact a j (by omega) h2)]
      · rw [if_neg a, if_neg (fun b => a (fun j h1 h2 => b j (by omega) h2))]
    · rw [if_neg e, if_neg (fun b => e (b i (Nat.le_refl _) (by omega)))]
theorem seal_eq (l : List Int) (n : Nat) (hn : l.length = n + 4) : (∀ j, 0 ≤ j → j < 4 → rd l ((n + j : Nat) : Int) = (le4 (ofN (l.take n))).getD j 0) ↔ sealN (l.take n) = l := by
  have e := split4 l n hn
  have hl4 : le4 (ofN (l.take n)) = [(le4 (ofN (l.take n))).getD 0 0, (le4 (ofN (l.take n))).getD 1 0, (le4 (ofN (l.take n))).getD 2 0, (le4 (ofN (l.take n))).getD 3 0] := rfl
  constructor
  · intro h
    unfold sealN
    rw [hl4, ← h 0 (by omega) (by omega), ← h 1 (by omega) (by omega), ← h 2 (by omega) (by omega), ← h 3 (by omega) (by omega)]
    exact e.symm
  · intro h j _ hj
    rw [rd_nat]
    have h2 : l.getD (n + j) 0 = (sealN (l.take n)).getD (n + j) 0 := by rw [h]
    rw [h2]
    unfold sealN
    rw [List.getD_eq_getElem?_getD, List.getElem?_append_right (by rw [List.length_take]; omega), List.length_take, show n + j - min n l.length = j by omega, ← List.getD_eq_getElem?_getD]
open Classical in
theorem Open_ev {l : List Int} (hb : Byt l) (hl : l.length ≤ 100000) : Ev (fun k => sum_Open.f k l) (openN l) := ⟨5, fun k hk => by
  show sum_Open.f k l = some (openN l)
  unfold sum_Open.f openN
  rw [wrap64_id (x := (l.length : Int) - 4) (by omega) (by omega)]
  by_cases c : l.length < 4
  · rw [if_pos (by omega), if_pos c]
  · obtain ⟨n, hn⟩ : ∃ n, l.length = n + 4 := ⟨l.length - 4, by omega⟩
    rw [if_neg (by omega), if_neg c, if_pos (by omega), if_pos (by omega), show ((l.length : Int) - 4) = (n : Int) by omega, Int.toNat_natCast, of_some (hb.take n), Option.bind_some, show l.length - 4 = n by omega]
    have q := Open_l0 l n (ofN (l.take n)) hn hl 4 0 rfl k hk
    refine q.trans (congrArg some ?_)
    by_cases s : sealN (l.take n) = l
    · rw [if_pos ((seal_eq l n hn).2 s), if_pos s]
    · rw [if_neg (fun h => s ((seal_eq l n hn).1 h)), if_neg s]⟩

theorem nums_inj {a b : List Int} (ha : Byt a) (hb : Byt b) : (strOfNums a).toList = (strOfNums b).toList ↔ a = b := by
  constructor
  · intro h
    have e := ba_ext h
    rw [← bytesOf_nums ha, ← bytesOf_nums hb, e]
  · intro h; rw [h]
theorem ref_Seal_ev {l : List Int} (hb : Byt l) (hl : l.length ≤ 100000) : Ev (fun k => lienref01_Seal.f k l) (sealN l) := by
  unfold lienref01_Seal.f
  refine Ev.bind (ref_Of_ev hb hl) ?_
  simp only [Option.bind_some, List.nil_append, List.length_nil]
  have e : ([((ofN l : Nat) : Int) % 256, ((ofN l : Nat) : Int) / 256 % 256, ((ofN l : Nat) : Int) / 65536 % 256, ((ofN l : Nat) : Int) / 16777216 % 256] : List Int) = le4 (ofN l) := by
    unfold le4
    simp only [List.cons.injEq, and_true]
    refine ⟨?_, ?_, ?_, ?_⟩ <;> omega
  simp only [e, if_pos (show 0 + l.length < 140737488355328 by omega), if_pos (show l.length + (le4 (ofN l)).length < 140737488355328 by rw [le4_len]; omega)]
  exact Ev.now _
theorem ref_Open_ev {l : List Int} (hb : Byt l) (hl : l.length ≤ 100000) : Ev (fun k => lienref01_Open.f k l) (openN l) := by
  unfold lienref01_Open.f openN
  by_cases c : l.length < 4
  · simp only [if_pos c, if_pos (show (l.length : Int) < 4 by omega)]
    exact Ev.now _
  · obtain ⟨n, hn⟩ : ∃ n, l.length = n + 4 := ⟨l.length - 4, by omega⟩
    have w : wrap64 ((l.length : Int) - 4) = (n : Int) := by rw [wrap64_id (by omega) (by omega)]; omega
    simp only [w, if_neg c, if_neg (show ¬ (l.length : Int) < 4 by omega), Option.bind_some, List.nil_append, List.length_nil, if_pos (show (0 : Int) ≤ (n : Int) by omega), if_pos (show (n : Int) ≤ (l.length : Int) by omega), Int.toNat_natCast, if_pos (show 0 + (l.take n).length < 140737488355328 by rw [List.length_take]; omega), show l.length - 4 = n by omega]
    refine Ev.bind (ref_Seal_ev (hb.take n) (by rw [List.length_take]; omega)) ?_
    by_cases s : sealN (l.take n) = l
    · simp only [if_pos s, if_pos ((nums_inj (sealN_byt (hb.take n)) hb).2 s)]
      exact Ev.now _
    · simp only [if_neg s, if_neg (fun h => s ((nums_inj (sealN_byt (hb.take n)) hb).1 h))]
      exact Ev.now _

theorem SumSeals : lienlaw01_SumSeals.Pure := by
  intro l _ _ hw
  obtain ⟨t, ht, htl, hb, _⟩ := cut_some l (Byt.of_wf hw)
  refine Ev.rounds ?_
  unfold lienlaw01_SumSeals.f
  simp only [ht, Option.bind_some]
  refine Ev.bind (Open_ev hb (by omega)) ?_
  refine Ev.bind (ref_Open_ev hb (by omega)) ?_
  refine Ev.bind (Seal_ev hb (by omega)) ?_
  refine Ev.bind (ref_Seal_ev hb (by omega)) ?_
  simp only [if_true]
  exact Ev.bind awake01 (Ev.now true)

end Go.Proofs.Ythpclknekfjnkaa.Pure
