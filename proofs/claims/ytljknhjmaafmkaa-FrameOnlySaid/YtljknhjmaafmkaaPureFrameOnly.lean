/- Written for the statement FrameOnly over the program's printed functions: numbers and lists alone. -/
import Derived.Test.YtljknhjmaafmkaaPFrameOnlyx
set_option linter.unusedVariables false
set_option linter.unusedSimpArgs false
namespace Go.Proofs.Ytljknhjmaafmkaa.Pure
open Go.RowKit Go.Proofs.Ytljknhjmaafmkaa.PFrameOnly Go.Proofs.YtljknhjmaafmkaaW Go.Proofs.YtljknhjmaafmkaaW.PrintWords Go.Proofs.YtljknhjmaafmkaaW.PrintLast Go.Proofs.YtljknhjmaafmkaaW.PrintMore

theorem wrap64_id {x : Int} (h0 : -9223372036854775808 ≤ x) (h1 : x ≤ 9223372036854775807) : wrap64 x = x := by unfold wrap64; omega
theorem wu64 (n : Int) : IntKind.u64.wrap n = n % 18446744073709551616 := by simp [IntKind.wrap, IntKind.bits, IntKind.signed]
theorem wraps_u64 (n : Int) (h0 : 0 ≤ n) (h1 : n < 2 ^ 64) : IntKind.u64.wrap n = n := by rw [wu64]; omega
theorem u64_and127 {x : Int} (h0 : 0 ≤ x) (h1 : x < 18446744073709551616) : Go.bits .and .u64 x 127 = x % 128 := Go.bits_mask .u64 64 (by decide) wraps_u64 7 (by decide) x h0 h1
theorem u8_and127 {x : Int} (h0 : 0 ≤ x) (h1 : x < 256) : Go.bits .and .u8 x 127 = x % 128 := Go.bits_mask .u8 8 (by decide) Go.wraps_u8 7 (by decide) x h0 h1
theorem bits_comm_or (k : IntKind) (x y : Int) : Go.bits .or k x y = Go.bits .or k y x := by simp [Go.bits, BitVec.or_comm]
theorem u8_or_128 {x : Int} (h0 : 0 ≤ x) (h1 : x < 128) : Go.bits .or .u8 x 128 = x + 128 := by
  rw [bits_comm_or, Go.bits_join .u8 8 (by decide) Go.wraps_u8 7 128 x (by decide) (by decide) (by decide) h0 h1 (by omega)]; omega
theorem u64_join (i : Nat) {x y : Int} (hx0 : 0 ≤ x) (hx : x % 2 ^ i = 0) (hx1 : x < 18446744073709551616) (hy0 : 0 ≤ y) (hy : y < 2 ^ i) (hy1 : y < 18446744073709551616) : Go.bits .or .u64 x y = x + y :=
  Go.bits_join .u64 64 (by decide) wraps_u64 i x y hx0 hx hx1 hy0 hy hy1
theorem wf_u64 {x : Int} (h : (Lit.int .u64 x).wf = true) : 0 ≤ x ∧ x < 18446744073709551616 := by
  simp [Lit.wf, IntKind.min, IntKind.max, IntKind.bits, IntKind.signed] at h; omega
theorem wf_u8 {x : Int} (h : (Lit.int .u8 x).wf = true) : 0 ≤ x ∧ x < 256 := by
  simp [Lit.wf, IntKind.min, IntKind.max, IntKind.bits, IntKind.signed] at h; omega
theorem wf_i64 {x : Int} (h : (Lit.int .i64 x).wf = true) : -9223372036854775808 ≤ x ∧ x ≤ 9223372036854775807 := by
  simp [Lit.wf, IntKind.min, IntKind.max, IntKind.bits, IntKind.signed] at h; omega
def Byt (l : List Int) : Prop := ∀ x ∈ l, 0 ≤ x ∧ x < 256
theorem Byt.of_wf {l : List Int} (h : ∀ x ∈ l, (Lit.int .u8 x).wf = true) : Byt l := fun x hx => wf_u8 (h x hx)
theorem Byt.rd {l : List Int} (h : Byt l) (i : Int) : 0 ≤ rd l i ∧ rd l i < 256 := by
  unfold PrintWords.rd
  rw [List.getD_eq_getElem?_getD]
  cases e : l[i.toNat]? with
  | none => simp
  | some x => exact h x (List.mem_of_getElem? e)
theorem Byt.take {l : List Int} (h : Byt l) (n : Nat) : Byt (l.take n) := fun x hx => h x (List.mem_of_mem_take hx)
theorem Byt.drop {l : List Int} (h : Byt l) (n : Nat) : Byt (l.drop n) := fun x hx => h x (List.mem_of_mem_drop hx)
theorem rd_nat (l : List Int) (i : Nat) : rd l (i : Int) = l.getD i 0 := by unfold PrintWords.rd; simp
theorem rd_drop {l : List Int} {i : Nat} (h : i < l.length) : l.drop i = rd l (i : Int) :: l.drop (i + 1) := by
  rw [rd_nat, List.drop_eq_getElem_cons h]; simp [List.getD_eq_getElem?_getD, List.getElem?_eq_getElem h]

theorem bl_eq (s : ByteArray) : s.toList = s.data.toList := ByteArray.toList_eq s
theorem ba_ext {a b : ByteArray} (h : a.toList = b.toList) : a = b := by
  rw [bl_eq, bl_eq] at h
  exact ByteArray.ext (Array.toList_inj.mp h)
theorem bl_len (s : ByteArray) : s.toList.length = s.size := by rw [bl_eq, Array.length_toList]; rfl
theorem bl_append (a b : ByteArray) : (a ++ b).toList = a.toList ++ b.toList := by rw [bl_eq, bl_eq, bl_eq, ByteArray.data_append, Array.toList_append]
theorem bl_extract (a : ByteArray) (i j : Nat) : (a.extract i j).toList = (a.toList.take j).drop i := by
  rw [bl_eq, bl_eq, ByteArray.data_extract, Array.toList_extract, List.extract_eq_take_drop, List.drop_take]
theorem bl_nums (xs : List Int) : (strOfNums xs).toList = xs.map fun n => UInt8.ofNat n.toNat := by rw [bl_eq]; rfl
theorem bt_nat (s : ByteArray) (i : Nat) (h : i < s.size) : bt s (i : Int) = ((s.toList[i]'(by rw [bl_len]; exact h)).toNat : Int) := by
  unfold PrintWords.bt
  rw [dif_pos (by simpa using h)]
  simp only [Int.toNat_natCast, bl_eq]
  rfl
theorem bl_bytesOf (s : ByteArray) : bytesOf s = s.toList.map fun b => (b.toNat : Int) := by unfold PrintWords.bytesOf; rw [bl_eq]
theorem less_app (p x y : List UInt8) : Op.bytesLess (p ++ x) (p ++ y) = Op.bytesLess x y := by
  induction p with
  | nil => rfl
  | cons c t ih => simp [Op.bytesLess, ih, UInt8.lt_irrefl]
theorem less_next {c d : UInt8} (h : c.toNat < d.toNat) (x y : List UInt8) : Op.bytesLess (c :: x) (d :: y) = true := by
  simp only [Op.bytesLess]
  rw [decide_eq_true (UInt8.lt_iff_toNat_lt.mpr h)]
  rfl

theorem byt_back {xs : List Int} (h : Byt xs) : (xs.map fun n => ((UInt8.ofNat n.toNat).toNat : Int)) = xs := by
  induction xs with
  | nil => rfl
  | cons c t ih =>
    have hc := h c (List.mem_cons_self ..)
    rw [List.map_cons, ih (fun x hx => h x (List.mem_cons_of_mem _ hx)), UInt8.toNat_ofNat']
    congr 1
    omega
theorem bytesOf_nums {xs : List Int} (h : Byt xs) : bytesOf (strOfNums xs) = xs := by
  rw [bl_bytesOf, bl_nums, List.map_map]
  exact byt_back h
theorem nums_bytesOf (s : ByteArray) : strOfNums (bytesOf s) = s := by
  apply ba_ext
  rw [bl_nums, bl_bytesOf, List.map_map]
  conv => rhs; rw [← List.map_id s.toList]
  apply List.map_congr_left
  intro b _
  simp
theorem nums_size (xs : List Int) : (strOfNums xs).size = xs.length := by rw [← bl_len, bl_nums, List.length_map]
theorem strs_byt (s : ByteArray) : Byt (bytesOf s) := by
  intro x hx
  rw [bl_bytesOf] at hx
  obtain ⟨b, _, rfl⟩ := List.mem_map.mp hx
  have := b.toNat_lt
  omega

theorem u32of {n : Nat} (h : n < 2 ^ 32) : (BitVec.ofInt 32 (n : Int)).toNat = n := by
  rw [BitVec.toNat_ofInt, show ((n : Int) % ((2 ^ 32 : Nat) : Int)).toNat = n by omega]
theorem u32x {a b : Nat} (ha : a < 2 ^ 32) (hb : b < 2 ^ 32) : Go.bits .xor .u32 (a : Int) (b : Int) = ((a ^^^ b : Nat) : Int) := by
  have e : (BitVec.ofInt 32 (a : Int) ^^^ BitVec.ofInt 32 (b : Int)).toNat = a ^^^ b := by rw [BitVec.toNat_xor, u32of ha, u32of hb]
  show IntKind.u32.wrap ((BitVec.ofInt 32 (a : Int) ^^^ BitVec.ofInt 32 (b : Int)).toNat : Int) = _
  rw [e, show IntKind.u32.wrap ((a ^^^ b : Nat) : Int) = ((a ^^^ b : Nat) : Int) % 4294967296 by simp [IntKind.wrap, IntKind.bits, IntKind.signed]]
  have := Nat.xor_lt_two_pow ha hb
  omega
theorem wf_u32 {x : Int} (h : (Lit.int .u32 x).wf = true) : 0 ≤ x ∧ x < 4294967296 := by
  simp [Lit.wf, IntKind.min, IntKind.max, IntKind.bits, IntKind.signed] at h; omega
def fullN : Nat := 4294967295
theorem u32ok_of {n : Nat} (h : n < 2 ^ 32) : u32ok (n : Int) = true := by
  simp only [u32ok, Bool.and_eq_true, decide_eq_true_eq]
  omega
theorem bytesOk_of {l : List Int} (h : Byt l) : bytesOk l = true := List.all_eq_true.2 fun x hx => by
  have := h x hx
  simp only [Bool.and_eq_true, decide_eq_true_eq]
  omega
theorem feedN_lt : ∀ (l : List Int) (c : Nat), c < 2 ^ 32 → Byt l → feedN c l < 2 ^ 32
  | [], _, h, _ => h
  | x :: xs, c, h, hb => feedN_lt xs _ (inb_lt h (by have := hb x (List.mem_cons_self ..); omega)) (fun y hy => hb y (List.mem_cons_of_mem _ hy))
theorem feedN_app : ∀ (a b : List Int) (c : Nat), feedN c (a ++ b) = feedN (feedN c a) b
  | [], _, _ => rfl
  | x :: xs, b, c => feedN_app xs b _
theorem feed_some {l : List Int} (hb : Byt l) {c : Nat} (h : c < 2 ^ 32) : sum_feed.f (c : Int) l = some ((feedN c l : Nat) : Int) := by
  unfold sum_feed.f
  rw [if_pos (by rw [u32ok_of h, bytesOk_of hb]; rfl), Int.toNat_natCast]
def moreN (c : Nat) (l : List Int) : Nat := feedN (c ^^^ fullN) l ^^^ fullN
def ofN (l : List Int) : Nat := moreN 0 l
theorem full_lt : fullN < 2 ^ 32 := by decide
theorem moreN_lt {l : List Int} (hb : Byt l) {c : Nat} (h : c < 2 ^ 32) : moreN c l < 2 ^ 32 := Nat.xor_lt_two_pow (feedN_lt l _ (Nat.xor_lt_two_pow h full_lt) hb) full_lt
theorem xor_full {c : Nat} (h : c < 2 ^ 32) : Go.bits .xor .u32 4294967295 (c : Int) = ((c ^^^ fullN : Nat) : Int) := by
  rw [Nat.xor_comm]
  exact u32x full_lt h
theorem xor_full' {c : Nat} (h : c < 2 ^ 32) : Go.bits .xor .u32 (c : Int) 4294967295 = ((c ^^^ fullN : Nat) : Int) := u32x h full_lt
theorem of_some {l : List Int} (hb : Byt l) : sum_Of.f l = some ((ofN l : Nat) : Int) := by
  unfold sum_Of.f
  rw [show (4294967295 : Int) = ((fullN : Nat) : Int) from rfl, feed_some hb full_lt, Option.bind_some]
  refine congrArg some ?_
  refine (xor_full (feedN_lt l fullN full_lt hb)).trans ?_
  unfold ofN moreN
  rw [Nat.zero_xor]
theorem ofN_lt {l : List Int} (hb : Byt l) : ofN l < 2 ^ 32 := moreN_lt hb (by decide)
theorem u32_nat {x : Int} (h : 0 ≤ x ∧ x < 4294967296) : ∃ n : Nat, x = (n : Int) ∧ n < 2 ^ 32 := ⟨x.toNat, by omega, by omega⟩

def leN : Nat → Nat → List Int
  | 0, _ => []
  | s + 1, n => ((n % 256 : Nat) : Int) :: leN s (n / 256)
theorem leN_len : ∀ s n, (leN s n).length = s
  | 0, _ => rfl
  | s + 1, n => by rw [leN, List.length_cons, leN_len s]
theorem leN_byt : ∀ s n, Byt (leN s n)
  | 0, _ => fun x hx => by cases hx
  | s + 1, n => fun x hx => by
    rw [leN] at hx
    rcases List.mem_cons.1 hx with rfl | hx
    · omega
    · exact leN_byt s _ x hx
theorem frPut_rep : ∀ (s n : Nat) (x : List Int) (a m : Nat), x.length = a → s ≤ m → frPut s n a (x ++ List.replicate m 0) = x ++ leN s n ++ List.replicate (m - s) 0
  | 0, n, x, a, m, _, _ => by rw [frPut, leN, List.append_nil, Nat.sub_zero]
  | s + 1, n, x, a, m, ha, hm => by
    obtain ⟨m, rfl⟩ : ∃ q, m = q + 1 := ⟨m - 1, by omega⟩
    subst ha
    have e : (x ++ List.replicate (m + 1) (0 : Int)).set x.length ((n % 256 : Nat) : Int) = (x ++ [((n % 256 : Nat) : Int)]) ++ List.replicate m 0 := by
      rw [List.set_append_right _ _ (Nat.le_refl _), Nat.sub_self, List.replicate_succ, List.set_cons_zero, List.append_assoc]
      rfl
    rw [frPut, e, frPut_rep s _ _ _ m (by rw [List.length_append]; rfl) (by omega), leN, show m + 1 - (s + 1) = m - s by omega]
    simp only [List.append_assoc, List.singleton_append]
theorem splice_at {X p : List Int} {m i : Nat} (hX : X.length = i) : splice (X ++ List.replicate m 0) i p = X ++ p ++ List.replicate (m - p.length) 0 := by
  unfold splice
  rw [List.take_left' hX, ← List.drop_drop, List.drop_left' hX, List.drop_replicate, List.append_assoc]
def headN (n0 n1 n2 kd ln : Nat) : List Int := leN 1 76 ++ leN 1 kd ++ leN 2 ln ++ leN 4 n0 ++ leN 4 n1 ++ leN 4 n2
def bodyN (n0 n1 n2 kd : Nat) (p : List Int) : List Int := headN n0 n1 n2 kd p.length ++ p ++ List.replicate (108 - p.length) 0
def encN (n0 n1 n2 kd : Nat) (p : List Int) : List Int := bodyN n0 n1 n2 kd p ++ leN 4 (ofN (bodyN n0 n1 n2 kd p))
theorem headN_len (n0 n1 n2 kd ln : Nat) : (headN n0 n1 n2 kd ln).length = 16 := by
  unfold headN
  simp only [List.length_append, leN_len]
theorem bodyN_len (n0 n1 n2 kd : Nat) {p : List Int} (h : p.length ≤ 108) : (bodyN n0 n1 n2 kd p).length = 124 := by
  unfold bodyN
  simp only [List.length_append, headN_len, List.length_replicate]
  omega
theorem encN_len (n0 n1 n2 kd : Nat) {p : List Int} (h : p.length ≤ 108) : (encN n0 n1 n2 kd p).length = 128 := by
  unfold encN
  rw [List.length_append, bodyN_len _ _ _ _ h, leN_len]
theorem byt_app {a b : List Int} (ha : Byt a) (hb : Byt b) : Byt (a ++ b) := fun x hx => (List.mem_append.1 hx).elim (ha x) (hb x)
theorem byt_rep (m : Nat) : Byt (List.replicate m 0) := fun x hx => by
  have := (List.mem_replicate.1 hx).2
  omega
theorem bodyN_byt (n0 n1 n2 kd : Nat) {p : List Int} (h : Byt p) : Byt (bodyN n0 n1 n2 kd p) := by
  unfold bodyN headN
  exact byt_app (byt_app (byt_app (byt_app (byt_app (byt_app (byt_app (leN_byt _ _) (leN_byt _ _)) (leN_byt _ _)) (leN_byt _ _)) (leN_byt _ _)) (leN_byt _ _)) h) (byt_rep _)
theorem encN_byt (n0 n1 n2 kd : Nat) {p : List Int} (h : Byt p) : Byt (encN n0 n1 n2 kd p) := byt_app (bodyN_byt n0 n1 n2 kd h) (leN_byt _ _)
theorem frHead_eq (n0 n1 n2 kd : Nat) {p : List Int} (h : p.length ≤ 108) : frHead n0 n1 n2 kd p = bodyN n0 n1 n2 kd p ++ List.replicate 4 0 := by
  unfold frHead
  have r1 := frPut_rep 1 76 [] 0 128 rfl (by decide)
  rw [List.nil_append] at r1
  rw [r1, List.nil_append]
  rw [frPut_rep 1 kd (leN 1 76) 1 (128 - 1) (leN_len _ _) (by decide)]
  rw [frPut_rep 2 p.length (leN 1 76 ++ leN 1 kd) 2 (128 - 1 - 1) (by simp only [List.length_append, leN_len]) (by decide)]
  rw [frPut_rep 4 n0 (leN 1 76 ++ leN 1 kd ++ leN 2 p.length) 4 (128 - 1 - 1 - 2) (by simp only [List.length_append, leN_len]) (by decide)]
  rw [frPut_rep 4 n1 (leN 1 76 ++ leN 1 kd ++ leN 2 p.length ++ leN 4 n0) 8 (128 - 1 - 1 - 2 - 4) (by simp only [List.length_append, leN_len]) (by decide)]
  rw [frPut_rep 4 n2 (leN 1 76 ++ leN 1 kd ++ leN 2 p.length ++ leN 4 n0 ++ leN 4 n1) 12 (128 - 1 - 1 - 2 - 4 - 4) (by simp only [List.length_append, leN_len]) (by decide)]
  rw [splice_at (by simp only [List.length_append, leN_len])]
  unfold bodyN headN
  rw [List.append_assoc _ (List.replicate (108 - p.length) 0) (List.replicate 4 0), List.replicate_append_replicate]
  rw [show 128 - 1 - 1 - 2 - 4 - 4 - 4 - p.length = 108 - p.length + 4 by omega]
def okN (n0 n1 n2 kd : Nat) (p : List Int) : Prop := n0 < 2147483648 ∧ n1 < 2147483648 ∧ n2 < 2147483648 ∧ 1 ≤ kd ∧ kd ≤ 4 ∧ p.length ≤ 108
theorem fits_some (x : Int) : frame_fits.f x = some (decide (0 ≤ x ∧ x ≤ 2147483647)) := by
  unfold frame_fits.f
  by_cases c : x ≥ 0
  · rw [if_pos c]; exact congrArg some (decide_eq_decide.2 (by omega))
  · rw [if_neg c]; exact congrArg some (decide_eq_false (by omega)).symm
theorem check_some (x y z : Int) : frame_Check.f x y z = some (if 0 ≤ x ∧ x ≤ 2147483647 ∧ 0 ≤ y ∧ y ≤ 2147483647 ∧ 0 ≤ z ∧ z ≤ 2147483647 then 0 else 1) := by
  unfold frame_Check.f
  simp only [fits_some, Option.bind_some, decide_eq_true_eq]
  by_cases c1 : 0 ≤ x ∧ x ≤ 2147483647
  · rw [if_pos c1]
    by_cases c2 : 0 ≤ y ∧ y ≤ 2147483647
    · rw [if_pos c2]
      by_cases c3 : 0 ≤ z ∧ z ≤ 2147483647
      · rw [if_pos c3, if_pos (by omega)]
      · rw [if_neg c3, if_neg (by omega)]
    · rw [if_neg c2, if_neg (by omega)]
  · rw [if_neg c1, if_neg (by omega)]
theorem known_some (x : Int) : frame_known.f x = some (decide (1 ≤ x ∧ x ≤ 4)) := by
  unfold frame_known.f
  by_cases c : x ≥ 1
  · rw [if_pos c]; exact congrArg some (decide_eq_decide.2 (by omega))
  · rw [if_neg c]; exact congrArg some (decide_eq_false (by omega)).symm
theorem enc_some {n0 n1 n2 kd : Nat} {p : List Int} (ho : okN n0 n1 n2 kd p) (hb : Byt p) : frame_Encode.f (n0 : Int) (n1 : Int) (n2 : Int) (kd : Int) p = some (encN n0 n1 n2 kd p, 0) := by
  obtain ⟨h0, h1, h2, h3, h4, h5⟩ := ho
  have hB := bodyN_byt n0 n1 n2 kd hb
  have hL := bodyN_len n0 n1 n2 kd h5
  unfold frame_Encode.f encN
  rw [check_some, if_pos (by omega), Option.bind_some, if_pos rfl, known_some, Option.bind_some, if_pos (by simp; omega), if_neg (by omega)]
  simp only [Int.toNat_natCast]
  rw [frHead_eq n0 n1 n2 kd h5]
  generalize bodyN n0 n1 n2 kd p = b at hB hL
  rw [List.take_left' hL, of_some hB, Option.bind_some, if_pos (u32ok_of (ofN_lt hB)), Int.toNat_natCast, frPut_rep 4 _ b 124 4 hL (by decide)]
  rw [Nat.sub_self, List.replicate_zero, List.append_nil]
theorem enc_bad1 {x y z k : Int} {p : List Int} (h : ¬ (0 ≤ x ∧ x ≤ 2147483647 ∧ 0 ≤ y ∧ y ≤ 2147483647 ∧ 0 ≤ z ∧ z ≤ 2147483647 ∧ 1 ≤ k ∧ k ≤ 4)) : frame_Encode.f x y z k p = some ([], 1) := by
  unfold frame_Encode.f
  rw [check_some, Option.bind_some]
  by_cases c : 0 ≤ x ∧ x ≤ 2147483647 ∧ 0 ≤ y ∧ y ≤ 2147483647 ∧ 0 ≤ z ∧ z ≤ 2147483647
  · rw [if_pos c, if_pos rfl, known_some, Option.bind_some, if_neg (by simp; omega)]
  · rw [if_neg c, if_neg (by decide)]
theorem enc_bad2 {x y z k : Int} {p : List Int} (h : 0 ≤ x ∧ x ≤ 2147483647 ∧ 0 ≤ y ∧ y ≤ 2147483647 ∧ 0 ≤ z ∧ z ≤ 2147483647 ∧ 1 ≤ k ∧ k ≤ 4) (hl : 108 < p.length) : frame_Encode.f x y z k p = some ([], 2) := by
  unfold frame_Encode.f
  rw [check_some, Option.bind_some, if_pos (show 0 ≤ x ∧ x ≤ 2147483647 ∧ 0 ≤ y ∧ y ≤ 2147483647 ∧ 0 ≤ z ∧ z ≤ 2147483647 by omega), if_pos rfl, known_some, Option.bind_some, if_pos (by simp; omega), if_pos hl]
theorem fcut_some (l : List Int) (hb : Byt l) : ∃ t, lienlaw04_cut.f l = some t ∧ t.length ≤ 300 ∧ Byt t := by
  unfold lienlaw04_cut.f
  by_cases c : (l.length : Int) > 300
  · rw [if_pos c, if_pos (by omega)]
    exact ⟨_, rfl, by rw [List.length_take]; omega, hb.take _⟩
  · rw [if_neg c]
    exact ⟨_, rfl, by omega, hb⟩
theorem awake04 : Ev (fun _ => lienlaw04_awake.f) true := Ev.now true

def seg (a b : Nat) (l : List Int) : List Int := (l.take b).drop a
theorem seg_len {a b : Nat} {l : List Int} (h : b ≤ l.length) : (seg a b l).length = b - a := by
  unfold seg; rw [List.length_drop, List.length_take]; omega
theorem seg_byt {a b : Nat} {l : List Int} (h : Byt l) : Byt (seg a b l) := (h.take b).drop a
theorem seg_join {a b c : Nat} (l : List Int) (h1 : a ≤ b) (h2 : b ≤ c) : seg a b l ++ seg b c l = seg a c l := by
  unfold seg
  have e : (l.take c).drop b = ((l.take c).drop a).drop (b - a) := by rw [List.drop_drop, show a + (b - a) = b by omega]
  have e2 : (l.take b).drop a = ((l.take c).drop a).take (b - a) := by
    rw [List.take_drop, List.take_take, show min (a + (b - a)) c = b by omega]
  rw [e, e2, List.take_append_drop]
theorem seg_all (l : List Int) : seg 0 l.length l = l := by unfold seg; rw [List.take_length, List.drop_zero]
theorem seg_one {a : Nat} {l : List Int} (h : a < l.length) : seg a (a + 1) l = [rd l (a : Int)] := by
  unfold seg
  rw [List.take_succ_eq_append_getElem h, List.drop_append_of_le_length (by rw [List.length_take]; omega), List.drop_eq_nil_of_le (by rw [List.length_take]; omega), List.nil_append, rd_nat]
  simp [List.getD_eq_getElem?_getD, List.getElem?_eq_getElem h]
theorem seg_le {l : List Int} (hb : Byt l) : ∀ (s a : Nat), a + s ≤ l.length → leN s (frNum s a l) = seg a (a + s) l
  | 0, a, h => by unfold seg; rw [leN, Nat.add_zero, List.drop_eq_nil_of_le (by rw [List.length_take]; omega)]
  | s + 1, a, h => by
    have hr := hb.rd (a : Int)
    have ih := seg_le hb s (a + 1) (by omega)
    rw [frNum, leN, show ((rd l (a : Int)).toNat + 256 * frNum s (a + 1) l) / 256 = frNum s (a + 1) l by omega, ih,
      ← seg_join l (show a ≤ a + 1 by omega) (show a + 1 ≤ a + (s + 1) by omega), seg_one (by omega), show a + 1 + s = a + (s + 1) by omega,
      show (((rd l (a : Int)).toNat + 256 * frNum s (a + 1) l) % 256 : Nat) = (rd l (a : Int)).toNat by omega, show (((rd l (a : Int)).toNat : Nat) : Int) = rd l (a : Int) by omega]
    rfl
theorem leN_inj {s : Nat} : ∀ {m n : Nat}, m < 256 ^ s → n < 256 ^ s → leN s m = leN s n → m = n := by
  induction s with
  | zero => intro m n h1 h2 _; simp at h1 h2; omega
  | succ s ih =>
    intro m n h1 h2 h
    rw [leN, leN] at h
    injection h with e1 e2
    rw [Nat.pow_succ] at h1 h2
    have := ih (m := m / 256) (n := n / 256) (by omega) (by omega) e2
    omega
theorem frNum_lt' {l : List Int} (hb : Byt l) (s a : Nat) : frNum s a l < 256 ^ s := frNum_lt (fun i => by have := hb.rd i; omega) s a
def longN (l : List Int) : Nat := frNum 2 2 l
def payN (l : List Int) : List Int := seg 16 (16 + longN l) l
def backN (l : List Int) : List Int := encN (frNum 4 4 l) (frNum 4 8 l) (frNum 4 12 l) (frNum 1 1 l) (payN l)
theorem payN_len {l : List Int} (h : l.length = 128) (hl : longN l ≤ 108) : (payN l).length = longN l := by unfold payN; rw [seg_len (by omega)]; omega
theorem body_back {l : List Int} (hb : Byt l) (h : l.length = 128) (hl : longN l ≤ 108) : bodyN (frNum 4 4 l) (frNum 4 8 l) (frNum 4 12 l) (frNum 1 1 l) (payN l) = [76] ++ seg 1 (16 + longN l) l ++ List.replicate (108 - longN l) 0 := by
  unfold bodyN headN
  rw [payN_len h hl]
  have e1 := seg_le hb 1 1 (by omega)
  have e2 := seg_le hb 2 2 (by omega)
  have e3 := seg_le hb 4 4 (by omega)
  have e4 := seg_le hb 4 8 (by omega)
  have e5 := seg_le hb 4 12 (by omega)
  rw [e1, show leN 2 (longN l) = seg 2 (2 + 2) l from e2, e3, e4, e5]
  unfold payN
  have j1 := seg_join l (show 1 ≤ 1 + 1 by omega) (show 1 + 1 ≤ 2 + 2 by omega)
  have j2 := seg_join l (show 1 ≤ 2 + 2 by omega) (show 2 + 2 ≤ 4 + 4 by omega)
  have j3 := seg_join l (show 1 ≤ 4 + 4 by omega) (show 4 + 4 ≤ 8 + 4 by omega)
  have j4 := seg_join l (show 1 ≤ 8 + 4 by omega) (show 8 + 4 ≤ 12 + 4 by omega)
  have j5 := seg_join l (show 1 ≤ 12 + 4 by omega) (show 12 + 4 ≤ 16 + longN l by omega)
  rw [← j5, ← j4, ← j3, ← j2, ← j1]
  simp only [List.append_assoc]
  rfl
theorem zeros_rep {z : List Int} : z.all (fun x => x == 0) = true ↔ z = List.replicate z.length 0 := by
  rw [List.all_eq_true, List.eq_replicate_iff]
  constructor
  · intro h
    exact ⟨rfl, fun x hx => by simpa using h x hx⟩
  · intro h x hx
    simpa using h.2 x hx
/-- When the bytes are just those that their parts make. -/
theorem back_iff {l : List Int} (hb : Byt l) (h : l.length = 128) (hl : longN l ≤ 108) : backN l = l ↔ (rd l 0 = 76 ∧ (seg (16 + longN l) 124 l).all (fun x => x == 0) = true ∧ frNum 4 124 l = ofN (l.take 124)) := by
  have hbody := body_back hb h hl
  have hbl := bodyN_len (frNum 4 4 l) (frNum 4 8 l) (frNum 4 12 l) (frNum 1 1 l) (p := payN l) (by rw [payN_len h hl]; exact hl)
  have hbb := bodyN_byt (frNum 4 4 l) (frNum 4 8 l) (frNum 4 12 l) (frNum 1 1 l) (p := payN l) (seg_byt hb)
  have hsp : l = l.take 124 ++ seg 124 128 l := by
    have := seg_join l (show 0 ≤ 124 by omega) (show 124 ≤ 128 by omega)
    have e := seg_all l
    rw [h] at e
    rw [e] at this
    rw [← this]
    conv => rhs; rw [this]
    unfold seg
    rw [List.drop_zero]
  have hs2 : l.take 124 = [rd l 0] ++ seg 1 (16 + longN l) l ++ seg (16 + longN l) 124 l := by
    have j1 := seg_join l (show 0 ≤ 0 + 1 by omega) (show 0 + 1 ≤ 16 + longN l by omega)
    have j2 := seg_join l (show 0 ≤ 16 + longN l by omega) (show 16 + longN l ≤ 124 by omega)
    rw [seg_one (a := 0) (by omega)] at j1
    have e : seg 0 124 l = l.take 124 := by unfold seg; rw [List.drop_zero]
    rw [← e, ← j2, ← j1]
    rfl
  have hn4 : leN 4 (frNum 4 124 l) = seg 124 128 l := seg_le hb 4 124 (by omega)
  have key1 : bodyN (frNum 4 4 l) (frNum 4 8 l) (frNum 4 12 l) (frNum 1 1 l) (payN l) = l.take 124 ↔ (rd l 0 = 76 ∧ (seg (16 + longN l) 124 l).all (fun x => x == 0) = true) := by
    rw [hbody, hs2, zeros_rep, seg_len (show 124 ≤ l.length by omega), show 124 - (16 + longN l) = 108 - longN l by omega]
    constructor
    · intro e
      obtain ⟨e1, e2⟩ := List.append_inj e (by simp only [List.length_append, List.length_singleton])
      obtain ⟨e3, _⟩ := List.append_inj e1 rfl
      injection e3 with e4
      exact ⟨e4.symm, e2.symm⟩
    · rintro ⟨e1, e2⟩
      rw [e1, ← e2]
  unfold backN encN
  generalize bodyN (frNum 4 4 l) (frNum 4 8 l) (frNum 4 12 l) (frNum 1 1 l) (payN l) = b at hbl hbb key1
  constructor
  · intro e
    have e' : b ++ leN 4 (ofN b) = l.take 124 ++ seg 124 128 l := e.trans hsp
    obtain ⟨e1, e2⟩ := List.append_inj e' (by rw [hbl, List.length_take]; omega)
    have k := key1.1 e1
    refine ⟨k.1, k.2, ?_⟩
    rw [← hn4] at e2
    rw [← e1]
    exact (leN_inj (s := 4) (by have := ofN_lt hbb; omega) (frNum_lt' hb 4 124) e2).symm
  · rintro ⟨e1, e2, e3⟩
    have k := key1.2 ⟨e1, e2⟩
    rw [k, ← e3, hn4]
    exact hsp.symm

def goodN (l : List Int) : Prop := longN l ≤ 108 ∧ frNum 4 4 l < 2147483648 ∧ frNum 4 8 l < 2147483648 ∧ frNum 4 12 l < 2147483648 ∧ 1 ≤ frNum 1 1 l ∧ frNum 1 1 l ≤ 4 ∧ backN l = l
def valN (l : List Int) : Int × Int × Int × Int × List Int × Int := ((frNum 4 4 l : Nat), (frNum 4 8 l : Nat), (frNum 4 12 l : Nat), (frNum 1 1 l : Nat), payN l, 0)
def badN : Int × Int × Int × Int × List Int × Int := (0, 0, 0, 0, [], 40)
theorem dec_good {l : List Int} (hb : Byt l) (h : l.length = 128) (hg : goodN l) : frame_Decode.f l = some (valN l) := by
  obtain ⟨g1, g2, g3, g4, g5, g6, g7⟩ := hg
  obtain ⟨k1, k2, k3⟩ := (back_iff hb h g1).1 g7
  have k2' : ((l.take 124).drop (16 + frNum 2 2 l)).all (fun x => x == 0) = true := k2
  unfold frame_Decode.f frDec1 frDec2
  rw [if_pos h, if_pos k1, if_pos (bytesOk_of hb), known_some, Option.bind_some, if_pos (by simp; omega), if_neg (show ¬ 108 < frNum 2 2 l from by unfold longN at g1; omega), if_neg (by omega), if_neg (by omega), if_neg (by omega), if_pos k2', of_some (hb.take 124), Option.bind_some, if_pos (by omega)]
  rfl
theorem dec_bad {l : List Int} (hb : Byt l) (hg : ¬ (l.length = 128 ∧ goodN l)) : frame_Decode.f l = some badN := by
  unfold frame_Decode.f frDec1 frDec2 frBad
  by_cases c0 : l.length = 128
  · rw [if_pos c0]
    by_cases c1 : rd l 0 = 76
    · rw [if_pos c1, if_pos (bytesOk_of hb), known_some, Option.bind_some]
      by_cases c2 : 1 ≤ frNum 1 1 l ∧ frNum 1 1 l ≤ 4
      · rw [if_pos (by simp; omega)]
        by_cases c3 : 108 < frNum 2 2 l
        · rw [if_pos c3]; rfl
        rw [if_neg c3]
        by_cases c4 : 2147483647 < frNum 4 4 l
        · rw [if_pos c4]; rfl
        rw [if_neg c4]
        by_cases c5 : 2147483647 < frNum 4 8 l
        · rw [if_pos c5]; rfl
        rw [if_neg c5]
        by_cases c6 : 2147483647 < frNum 4 12 l
        · rw [if_pos c6]; rfl
        rw [if_neg c6]
        by_cases c7 : ((l.take 124).drop (16 + frNum 2 2 l)).all (fun x => x == 0) = true
        · rw [if_pos c7, of_some (hb.take 124), Option.bind_some]
          by_cases c8 : ((frNum 4 124 l : Nat) : Int) = ((ofN (l.take 124) : Nat) : Int)
          · exact absurd ⟨c0, by unfold longN; omega, by omega, by omega, by omega, c2.1, c2.2, (back_iff hb c0 (by unfold longN; omega)).2 ⟨c1, c7, by omega⟩⟩ hg
          · rw [if_neg c8]; rfl
        · rw [if_neg c7]; rfl
      · rw [if_neg (by simp; omega)]; rfl
    · rw [if_neg c1]; rfl
  · rw [if_neg c0]; rfl

theorem FrameOnly : lienlaw04_FrameOnly.Pure := by
  intro l _ _ hw
  obtain ⟨t, ht, hl, hb⟩ := fcut_some l (Byt.of_wf hw)
  unfold lienlaw04_FrameOnly.f
  rw [ht, Option.bind_some]
  by_cases c : t.length = 128 ∧ goodN t
  · obtain ⟨c1, g1, g2, g3, g4, g5, g6, g7⟩ := c
    have he := enc_some (p := payN t) ⟨g2, g3, g4, g5, g6, by rw [payN_len c1 g1]; exact g1⟩ (seg_byt hb)
    rw [show encN (frNum 4 4 t) (frNum 4 8 t) (frNum 4 12 t) (frNum 1 1 t) (payN t) = t from g7] at he
    rw [dec_good hb c1 ⟨g1, g2, g3, g4, g5, g6, g7⟩, Option.bind_some]
    unfold valN
    simp only [if_true]
    rw [he, Option.bind_some]
    simp only [if_true]
    rfl
  · rw [dec_bad hb c, Option.bind_some]
    unfold badN
    simp only [if_neg (show ¬ (40 : Int) = 0 by decide), if_true]
    rfl

end Go.Proofs.Ytljknhjmaafmkaa.Pure
