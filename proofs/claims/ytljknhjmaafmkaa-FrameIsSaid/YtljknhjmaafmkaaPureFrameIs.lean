/- Written for the statement FrameIs over the program's printed functions: numbers and lists alone. -/
import Derived.Test.YtljknhjmaafmkaaPFrameIsx
set_option linter.unusedVariables false
set_option linter.unusedSimpArgs false
namespace Go.Proofs.Ytljknhjmaafmkaa.Pure
open Go.RowKit Go.Proofs.Ytljknhjmaafmkaa.PFrameIs Go.Proofs.YtljknhjmaafmkaaW Go.Proofs.YtljknhjmaafmkaaW.PrintWords Go.Proofs.YtljknhjmaafmkaaW.PrintLast Go.Proofs.YtljknhjmaafmkaaW.PrintMore

theorem wrap64_id {x : Int} (h0 : -9223372036854775808 ≤ x) (h1 : x ≤ 9223372036854775807) : wrap64 x = x := by unfold wrap64; omega
theorem wu64 (n : Int) : IntKind.u64.wrap n = n % 18446744073709551616 := by simp [IntKind.wrap, IntKind.bits, IntKind.signed]
theorem wraps_u64 (n : Int) (h0 : 0 ≤ n) (h1 : n < 2 ^ 64) : IntKind.u64.wrap n = n := by rw [wu64]; omega
theorem u64_and127 {x : Int} (h0 : 0 ≤ x) (h1 : x < 18446744073709551616) : Go.bits .and .u64 x 127 = x % 128 := Go.bits_mask .u64 64 (by decide) wraps_u64 7 (by decide) x h0 h1
theorem u8_and127 {x : Int} (h0 : 0 ≤ x) (h1 : x < 256) : Go.bits .and .u8 x 127 = x % 128 := Go.bits_mask .u8 8 (by decide) Go.wraps_u8 7 (by decide) x h0 h1
theorem bits_comm_or (k : IntKind) (x y : Int) : Go.bits .or k x y = Go.bits .or k y x := by simp [Go.bits, BitVec.or_comm]
theorem u8_or_128 {x : Int} (h0 : 0 ≤ x) (h1 : x < 128) : Go.bits .or .u8 x 128 = x + 128 := by
  rw [bits_comm_or, Go.bits_join .u8 8 (by decide) Go.wraps_u8 7 128 x (by decide) (by decide) (by decide) h0 h1 (by omega)]; omega
theorem u64_join (i : Nat) {x y : Int} (hx0 : 0 ≤ x) (hx : x % 2 ^ i = 0) (hx1 : x < 18446744073709551616) (hy0 : 0 ≤ y) (hy : y < 2 ^ i) (hy1 : y < 18446744073709551616) : Go.bits .or .u64 x y = x + y :=
  Go.bits_join .u64 64 (by decide) wraps_u64 i x y hx0 hx hx1 hy0 hy hy1
theorem wf_u64 {x : Int} (h : (Lit.int .u64 x).wf = true) : 0 ≤ x ∧ x < 18446744073709551616 := by
  simp [Lit.wf, IntKind.min, IntKind.max, IntKind.bits, IntKind.signed] at h; omega
theorem wf_u8 {x : Int} (h : (Lit.int .u8 x).wf = true) : 0 ≤ x ∧ x < 256 := by
  simp [Lit.wf, IntKind.min, IntKind.max, IntKind.bits, IntKind.signed] at h; omega
theorem wf_i64 {x : Int} (h : (Lit.int .i64 x).wf = true) : -9223372036854775808 ≤ x ∧ x ≤ 9223372036854775807 := by
  simp [Lit.wf, IntKind.min, IntKind.max, IntKind.bits, IntKind.signed] at h; omega
def Byt (l : List Int) : Prop := ∀ x ∈ l, 0 ≤ x ∧ x < 256
theorem Byt.of_wf {l : List Int} (h : ∀ x ∈ l, (Lit.int .u8 x).wf = true) : Byt l := fun x hx => wf_u8 (h x hx)
theorem Byt.rd {l : List Int} (h : Byt l) (i : Int) : 0 ≤ rd l i ∧ rd l i < 256 := by
  unfold PrintWords.rd
  rw [List.getD_eq_getElem?_getD]
  cases e : l[i.toNat]? with
  | none => simp
  | some x => exact h x (List.mem_of_getElem? e)
theorem Byt.take {l : List Int} (h : Byt l) (n : Nat) : Byt (l.take n) := fun x hx => h x (List.mem_of_mem_take hx)
theorem Byt.drop {l : List Int} (h : Byt l) (n : Nat) : Byt (l.drop n) := fun x hx => h x (List.mem_of_mem_drop hx)
theorem rd_nat (l : List Int) (i : Nat) : rd l (i : Int) = l.getD i 0 := by unfold PrintWords.rd; simp
theorem rd_drop {l : List Int} {i : Nat} (h : i < l.length) : l.drop i = rd l (i : Int) :: l.drop (i + 1) := by
  rw [rd_nat, List.drop_eq_getElem_cons h]; simp [List.getD_eq_getElem?_getD, List.getElem?_eq_getElem h]

theorem bl_eq (s : ByteArray) : s.toList = s.data.toList := ByteArray.toList_eq s
theorem ba_ext {a b : ByteArray} (h : a.toList = b.toList) : a = b := by
  rw [bl_eq, bl_eq] at h
  exact ByteArray.ext (Array.toList_inj.mp h)
theorem bl_len (s : ByteArray) : s.toList.length = s.size := by rw [bl_eq, Array.length_toList]; rfl
theorem bl_append (a b : ByteArray) : (a ++ b).toList = a.toList ++ b.toList := by rw [bl_eq, bl_eq, bl_eq, ByteArray.data_append, Array.toList_append]
theorem bl_extract (a : ByteArray) (i j : Nat) : (a.extract i j).toList = (a.toList.take j).drop i := by
  rw [bl_eq, bl_eq, ByteArray.data_extract, Array.toList_extract, List.extract_eq_take_drop, List.drop_take]
theorem bl_nums (xs : List Int) : (strOfNums xs).toList = xs.map fun n => UInt8.ofNat n.toNat := by rw [bl_eq]; rfl
theorem bt_nat (s : ByteArray) (i : Nat) (h : i < s.size) : bt s (i : Int) = ((s.toList[i]'(by rw [bl_len]; exact h)).toNat : Int) := by
  unfold PrintWords.bt
  rw [dif_pos (by simpa using h)]
  simp only [Int.toNat_natCast, bl_eq]
  rfl
theorem bl_bytesOf (s : ByteArray) : bytesOf s = s.toList.map fun b => (b.toNat : Int) := by unfold PrintWords.bytesOf; rw [bl_eq]
theorem less_app (p x y : List UInt8) : Op.bytesLess (p ++ x) (p ++ y) = Op.bytesLess x y := by
  induction p with
  | nil => rfl
  | cons c t ih => simp [Op.bytesLess, ih, UInt8.lt_irrefl]
theorem less_next {c d : UInt8} (h : c.toNat < d.toNat) (x y : List UInt8) : Op.bytesLess (c :: x) (d :: y) = true := by
  simp only [Op.bytesLess]
  rw [decide_eq_true (UInt8.lt_iff_toNat_lt.mpr h)]
  rfl

theorem byt_back {xs : List Int} (h : Byt xs) : (xs.map fun n => ((UInt8.ofNat n.toNat).toNat : Int)) = xs := by
  induction xs with
  | nil => rfl
  | cons c t ih =>
    have hc := h c (List.mem_cons_self ..)
    rw [List.map_cons, ih (fun x hx => h x (List.mem_cons_of_mem _ hx)), UInt8.toNat_ofNat']
    congr 1
    omega
theorem bytesOf_nums {xs : List Int} (h : Byt xs) : bytesOf (strOfNums xs) = xs := by
  rw [bl_bytesOf, bl_nums, List.map_map]
  exact byt_back h
theorem nums_bytesOf (s : ByteArray) : strOfNums (bytesOf s) = s := by
  apply ba_ext
  rw [bl_nums, bl_bytesOf, List.map_map]
  conv => rhs; rw [← List.map_id s.toList]
  apply List.map_congr_left
  intro b _
  simp
theorem nums_size (xs : List Int) : (strOfNums xs).size = xs.length := by rw [← bl_len, bl_nums, List.length_map]
theorem strs_byt (s : ByteArray) : Byt (bytesOf s) := by
  intro x hx
  rw [bl_bytesOf] at hx
  obtain ⟨b, _, rfl⟩ := List.mem_map.mp hx
  have := b.toNat_lt
  omega

theorem u32of {n : Nat} (h : n < 2 ^ 32) : (BitVec.ofInt 32 (n : Int)).toNat = n := by
  rw [BitVec.toNat_ofInt, show ((n : Int) % ((2 ^ 32 : Nat) : Int)).toNat = n by omega]
theorem u32x {a b : Nat} (ha : a < 2 ^ 32) (hb : b < 2 ^ 32) : Go.bits .xor .u32 (a : Int) (b : Int) = ((a ^^^ b : Nat) : Int) := by
  have e : (BitVec.ofInt 32 (a : Int) ^^^ BitVec.ofInt 32 (b : Int)).toNat = a ^^^ b := by rw [BitVec.toNat_xor, u32of ha, u32of hb]
  show IntKind.u32.wrap ((BitVec.ofInt 32 (a : Int) ^^^ BitVec.ofInt 32 (b : Int)).toNat : Int) = _
  rw [e, show IntKind.u32.wrap ((a ^^^ b : Nat) : Int) = ((a ^^^ b : Nat) : Int) % 4294967296 by simp [IntKind.wrap, IntKind.bits, IntKind.signed]]
  have := Nat.xor_lt_two_pow ha hb
  omega
theorem wf_u32 {x : Int} (h : (Lit.int .u32 x).wf = true) : 0 ≤ x ∧ x < 4294967296 := by
  simp [Lit.wf, IntKind.min, IntKind.max, IntKind.bits, IntKind.signed] at h; omega
def fullN : Nat := 4294967295
theorem u32ok_of {n : Nat} (h : n < 2 ^ 32) : u32ok (n : Int) = true := by
  simp only [u32ok, Bool.and_eq_true, decide_eq_true_eq]
  omega
theorem bytesOk_of {l : List Int} (h : Byt l) : bytesOk l = true := List.all_eq_true.2 fun x hx => by
  have := h x hx
  simp only [Bool.and_eq_true, decide_eq_true_eq]
  omega
theorem feedN_lt : ∀ (l : List Int) (c : Nat), c < 2 ^ 32 → Byt l → feedN c l < 2 ^ 32
  | [], _, h, _ => h
  | x :: xs, c, h, hb => feedN_lt xs _ (inb_lt h (by have := hb x (List.mem_cons_self ..); omega)) (fun y hy => hb y (List.mem_cons_of_mem _ hy))
theorem feedN_app : ∀ (a b : List Int) (c : Nat), feedN c (a ++ b) = feedN (feedN c a) b
  | [], _, _ => rfl
  | x :: xs, b, c => feedN_app xs b _
theorem feed_some {l : List Int} (hb : Byt l) {c : Nat} (h : c < 2 ^ 32) : sum_feed.f (c : Int) l = some ((feedN c l : Nat) : Int) := by
  unfold sum_feed.f
  rw [if_pos (by rw [u32ok_of h, bytesOk_of hb]; rfl), Int.toNat_natCast]
def moreN (c : Nat) (l : List Int) : Nat := feedN (c ^^^ fullN) l ^^^ fullN
def ofN (l : List Int) : Nat := moreN 0 l
theorem full_lt : fullN < 2 ^ 32 := by decide
theorem moreN_lt {l : List Int} (hb : Byt l) {c : Nat} (h : c < 2 ^ 32) : moreN c l < 2 ^ 32 := Nat.xor_lt_two_pow (feedN_lt l _ (Nat.xor_lt_two_pow h full_lt) hb) full_lt
theorem xor_full {c : Nat} (h : c < 2 ^ 32) : Go.bits .xor .u32 4294967295 (c : Int) = ((c ^^^ fullN : Nat) : Int) := by
  rw [Nat.xor_comm]
  exact u32x full_lt h
theorem xor_full' {c : Nat} (h : c < 2 ^ 32) : Go.bits .xor .u32 (c : Int) 4294967295 = ((c ^^^ fullN : Nat) : Int) := u32x h full_lt
theorem of_some {l : List Int} (hb : Byt l) : sum_Of.f l = some ((ofN l : Nat) : Int) := by
  unfold sum_Of.f
  rw [show (4294967295 : Int) = ((fullN : Nat) : Int) from rfl, feed_some hb full_lt, Option.bind_some]
  refine congrArg some ?_
  refine (xor_full (feedN_lt l fullN full_lt hb)).trans ?_
  unfold ofN moreN
  rw [Nat.zero_xor]
theorem ofN_lt {l : List Int} (hb : Byt l) : ofN l < 2 ^ 32 := moreN_lt hb (by decide)
theorem u32_nat {x : Int} (h : 0 ≤ x ∧ x < 4294967296) : ∃ n : Nat, x = (n : Int) ∧ n < 2 ^ 32 := ⟨x.toNat, by omega, by omega⟩

def leN : Nat → Nat → List Int
  | 0, _ => []
  | s + 1, n => ((n % 256 : Nat) : Int) :: leN s (n / 256)
theorem leN_len : ∀ s n, (leN s n).length = s
  | 0, _ => rfl
  | s + 1, n => by rw [leN, List.length_cons, leN_len s]
theorem leN_byt : ∀ s n, Byt (leN s n)
  | 0, _ => fun x hx => by cases hx
  | s + 1, n => fun x hx => by
    rw [leN] at hx
    rcases List.mem_cons.1 hx with rfl | hx
    · omega
    · exact leN_byt s _ x hx
theorem frPut_rep : ∀ (s n : Nat) (x : List Int) (a m : Nat), x.length = a → s ≤ m → frPut s n a (x ++ List.replicate m 0) = x ++ leN s n ++ List.replicate (m - s) 0
  | 0, n, x, a, m, _, _ => by rw [frPut, leN, List.append_nil, Nat.sub_zero]
  | s + 1, n, x, a, m, ha, hm => by
    obtain ⟨m, rfl⟩ : ∃ q, m = q + 1 := ⟨m - 1, by omega⟩
    subst ha
    have e : (x ++ List.replicate (m + 1) (0 : Int)).set x.length ((n % 256 : Nat) : Int) = (x ++ [((n % 256 : Nat) : Int)]) ++ List.replicate m 0 := by
      rw [List.set_append_right _ _ (Nat.le_refl _), Nat.sub_self, List.replicate_succ, List.set_cons_zero, List.append_assoc]
      rfl
    rw [frPut, e, frPut_rep s _ _ _ m (by rw [List.length_append]; rfl) (by omega), leN, show m + 1 - (s + 1) = m - s by omega]
    simp only [List.append_assoc, List.singleton_append]
theorem splice_at {X p : List Int} {m i : Nat} (hX : X.length = i) : splice (X ++ List.replicate m 0) i p = X ++ p ++ List.replicate (m - p.length) 0 := by
  unfold splice
  rw [List.take_left' hX, ← List.drop_drop, List.drop_left' hX, List.drop_replicate, List.append_assoc]
def headN (n0 n1 n2 kd ln : Nat) : List Int := leN 1 76 ++ leN 1 kd ++ leN 2 ln ++ leN 4 n0 ++ leN 4 n1 ++ leN 4 n2
def bodyN (n0 n1 n2 kd : Nat) (p : List Int) : List Int := headN n0 n1 n2 kd p.length ++ p ++ List.replicate (108 - p.length) 0
def encN (n0 n1 n2 kd : Nat) (p : List Int) : List Int := bodyN n0 n1 n2 kd p ++ leN 4 (ofN (bodyN n0 n1 n2 kd p))
theorem headN_len (n0 n1 n2 kd ln : Nat) : (headN n0 n1 n2 kd ln).length = 16 := by
  unfold headN
  simp only [List.length_append, leN_len]
theorem bodyN_len (n0 n1 n2 kd : Nat) {p : List Int} (h : p.length ≤ 108) : (bodyN n0 n1 n2 kd p).length = 124 := by
  unfold bodyN
  simp only [List.length_append, headN_len, List.length_replicate]
  omega
theorem encN_len (n0 n1 n2 kd : Nat) {p : List Int} (h : p.length ≤ 108) : (encN n0 n1 n2 kd p).length = 128 := by
  unfold encN
  rw [List.length_append, bodyN_len _ _ _ _ h, leN_len]
theorem byt_app {a b : List Int} (ha : Byt a) (hb : Byt b) : Byt (a ++ b) := fun x hx => (List.mem_append.1 hx).elim (ha x) (hb x)
theorem byt_rep (m : Nat) : Byt (List.replicate m 0) := fun x hx => by
  have := (List.mem_replicate.1 hx).2
  omega
theorem bodyN_byt (n0 n1 n2 kd : Nat) {p : List Int} (h : Byt p) : Byt (bodyN n0 n1 n2 kd p) := by
  unfold bodyN headN
  exact byt_app (byt_app (byt_app (byt_app (byt_app (byt_app (byt_app (leN_byt _ _) (leN_byt _ _)) (leN_byt _ _)) (leN_byt _ _)) (leN_byt _ _)) (leN_byt _ _)) h) (byt_rep _)
theorem encN_byt (n0 n1 n2 kd : Nat) {p : List Int} (h : Byt p) : Byt (encN n0 n1 n2 kd p) := byt_app (bodyN_byt n0 n1 n2 kd h) (leN_byt _ _)
theorem frHead_eq (n0 n1 n2 kd : Nat) {p : List Int} (h : p.length ≤ 108) : frHead n0 n1 n2 kd p = bodyN n0 n1 n2 kd p ++ List.replicate 4 0 := by
  unfold frHead
  have r1 := frPut_rep 1 76 [] 0 128 rfl (by decide)
  rw [List.nil_append] at r1
  rw [r1, List.nil_append]
  rw [frPut_rep 1 kd (leN 1 76) 1 (128 - 1) (leN_len _ _) (by decide)]
  rw [frPut_rep 2 p.length (leN 1 76 ++ leN 1 kd) 2 (128 - 1 - 1) (by simp only [List.length_append, leN_len]) (by decide)]
  rw [frPut_rep 4 n0 (leN 1 76 ++ leN 1 kd ++ leN 2 p.length) 4 (128 - 1 - 1 - 2) (by simp only [List.length_append, leN_len]) (by decide)]
  rw [frPut_rep 4 n1 (leN 1 76 ++ leN 1 kd ++ leN 2 p.length ++ leN 4 n0) 8 (128 - 1 - 1 - 2 - 4) (by simp only [List.length_append, leN_len]) (by decide)]
  rw [frPut_rep 4 n2 (leN 1 76 ++ leN 1 kd ++ leN 2 p.length ++ leN 4 n0 ++ leN 4 n1) 12 (128 - 1 - 1 - 2 - 4 - 4) (by simp only [List.length_append, leN_len]) (by decide)]
  rw [splice_at (by simp only [List.length_append, leN_len])]
  unfold bodyN headN
  rw [List.append_assoc _ (List.replicate (108 - p.length) 0) (List.replicate 4 0), List.replicate_append_replicate]
  rw [show 128 - 1 - 1 - 2 - 4 - 4 - 4 - p.length = 108 - p.length + 4 by omega]
def okN (n0 n1 n2 kd : Nat) (p : List Int) : Prop := n0 < 2147483648 ∧ n1 < 2147483648 ∧ n2 < 2147483648 ∧ 1 ≤ kd ∧ kd ≤ 4 ∧ p.length ≤ 108
theorem fits_some (x : Int) : frame_fits.f x = some (decide (0 ≤ x ∧ x ≤ 2147483647)) := by
  unfold frame_fits.f
  by_cases c : x ≥ 0
  · rw [if_pos c]; exact congrArg some (decide_eq_decide.2 (by omega))
  · rw [if_neg c]; exact congrArg some (decide_eq_false (by omega)).symm
theorem check_some (x y z : Int) : frame_Check.f x y z = some (if 0 ≤ x ∧ x ≤ 2147483647 ∧ 0 ≤ y ∧ y ≤ 2147483647 ∧ 0 ≤ z ∧ z ≤ 2147483647 then 0 else 1) := by
  unfold frame_Check.f
  simp only [fits_some, Option.bind_some, decide_eq_true_eq]
  by_cases c1 : 0 ≤ x ∧ x ≤ 2147483647
  · rw [if_pos c1]
    by_cases c2 : 0 ≤ y ∧ y ≤ 2147483647
    · rw [if_pos c2]
      by_cases c3 : 0 ≤ z ∧ z ≤ 2147483647
      · rw [if_pos c3, if_pos (by omega)]
      · rw [if_neg c3, if_neg (by omega)]
    · rw [if_neg c2, if_neg (by omega)]
  · rw [if_neg c1, if_neg (by omega)]
theorem known_some (x : Int) : frame_known.f x = some (decide (1 ≤ x ∧ x ≤ 4)) := by
  unfold frame_known.f
  by_cases c : x ≥ 1
  · rw [if_pos c]; exact congrArg some (decide_eq_decide.2 (by omega))
  · rw [if_neg c]; exact congrArg some (decide_eq_false (by omega)).symm
theorem enc_some {n0 n1 n2 kd : Nat} {p : List Int} (ho : okN n0 n1 n2 kd p) (hb : Byt p) : frame_Encode.f (n0 : Int) (n1 : Int) (n2 : Int) (kd : Int) p = some (encN n0 n1 n2 kd p, 0) := by
  obtain ⟨h0, h1, h2, h3, h4, h5⟩ := ho
  have hB := bodyN_byt n0 n1 n2 kd hb
  have hL := bodyN_len n0 n1 n2 kd h5
  unfold frame_Encode.f encN
  rw [check_some, if_pos (by omega), Option.bind_some, if_pos rfl, known_some, Option.bind_some, if_pos (by simp; omega), if_neg (by omega)]
  simp only [Int.toNat_natCast]
  rw [frHead_eq n0 n1 n2 kd h5]
  generalize bodyN n0 n1 n2 kd p = b at hB hL
  rw [List.take_left' hL, of_some hB, Option.bind_some, if_pos (u32ok_of (ofN_lt hB)), Int.toNat_natCast, frPut_rep 4 _ b 124 4 hL (by decide)]
  rw [Nat.sub_self, List.replicate_zero, List.append_nil]
theorem enc_bad1 {x y z k : Int} {p : List Int} (h : ¬ (0 ≤ x ∧ x ≤ 2147483647 ∧ 0 ≤ y ∧ y ≤ 2147483647 ∧ 0 ≤ z ∧ z ≤ 2147483647 ∧ 1 ≤ k ∧ k ≤ 4)) : frame_Encode.f x y z k p = some ([], 1) := by
  unfold frame_Encode.f
  rw [check_some, Option.bind_some]
  by_cases c : 0 ≤ x ∧ x ≤ 2147483647 ∧ 0 ≤ y ∧ y ≤ 2147483647 ∧ 0 ≤ z ∧ z ≤ 2147483647
  · rw [if_pos c, if_pos rfl, known_some, Option.bind_some, if_neg (by simp; omega)]
  · rw [if_neg c, if_neg (by decide)]
theorem enc_bad2 {x y z k : Int} {p : List Int} (h : 0 ≤ x ∧ x ≤ 2147483647 ∧ 0 ≤ y ∧ y ≤ 2147483647 ∧ 0 ≤ z ∧ z ≤ 2147483647 ∧ 1 ≤ k ∧ k ≤ 4) (hl : 108 < p.length) : frame_Encode.f x y z k p = some ([], 2) := by
  unfold frame_Encode.f
  rw [check_some, Option.bind_some, if_pos (show 0 ≤ x ∧ x ≤ 2147483647 ∧ 0 ≤ y ∧ y ≤ 2147483647 ∧ 0 ≤ z ∧ z ≤ 2147483647 by omega), if_pos rfl, known_some, Option.bind_some, if_pos (by simp; omega), if_pos hl]
theorem fcut_some (l : List Int) (hb : Byt l) : ∃ t, lienlaw04_cut.f l = some t ∧ t.length ≤ 300 ∧ Byt t := by
  unfold lienlaw04_cut.f
  by_cases c : (l.length : Int) > 300
  · rw [if_pos c, if_pos (by omega)]
    exact ⟨_, rfl, by rw [List.length_take]; omega, hb.take _⟩
  · rw [if_neg c]
    exact ⟨_, rfl, by omega, hb⟩
theorem awake04 : Ev (fun _ => lienlaw04_awake.f) true := Ev.now true

theorem step_some {c : Nat} (h : c < 2 ^ 32) : lienref01_step.f (c : Int) = some ((st c : Nat) : Int) := by
  unfold lienref01_step.f
  have w1 : Int.tmod (c : Int) 2 = ((c % 2 : Nat) : Int) := by rw [Int.tmod_eq_emod_of_nonneg (by omega)]; omega
  have w2 : Int.tdiv (c : Int) 2 % 4294967296 = ((c / 2 : Nat) : Int) := by rw [Int.tdiv_eq_ediv_of_nonneg (by omega)]; omega
  rw [w1, w2]
  unfold st
  by_cases e : c % 2 = 1
  · rw [if_pos (by omega), if_pos e]
    exact congrArg some (u32x (a := c / 2) (b := crcP) (by omega) (by decide))
  · rw [if_neg (by omega), if_neg e]
theorem ref_in_l0 : ∀ (d i : Nat) (c : Nat), c < 2 ^ 32 → i + d = 8 → ∀ k, d + 1 ≤ k → lienref01_in.l0 k (c : Int) (i : Int) = some ((stn d c : Nat) : Int)
  | 0, i, c, h, hi, k, hk => by
    obtain ⟨k, rfl⟩ : ∃ m, k = m + 1 := ⟨k - 1, by omega⟩
    rw [lienref01_in.l0, if_neg (by omega)]
    rfl
  | d + 1, i, c, h, hi, k, hk => by
    obtain ⟨k, rfl⟩ : ∃ m, k = m + 1 := ⟨k - 1, by omega⟩
    rw [lienref01_in.l0, if_pos (by omega), step_some h, Option.bind_some, wrap64_id (by omega) (by omega), show ((i : Int) + 1) = ((i + 1 : Nat) : Int) by omega]
    exact ref_in_l0 d (i + 1) (st c) (st_lt h) (by omega) k (by omega)
theorem ref_in_at {c x : Nat} (h : c < 2 ^ 32) (hx : x < 256) (k : Nat) (hk : 9 ≤ k) : lienref01_in.f k (c : Int) (x : Int) = some ((inb c x : Nat) : Int) := by
  unfold lienref01_in.f
  rw [show (x : Int) % 4294967296 = (x : Int) by omega, u32x h (by omega)]
  exact ref_in_l0 8 0 _ (Nat.xor_lt_two_pow h (by omega)) rfl k hk
theorem ref_in_ev {c x : Nat} (h : c < 2 ^ 32) (hx : x < 256) : Ev (fun k => lienref01_in.f k (c : Int) (x : Int)) ((inb c x : Nat) : Int) := ⟨9, fun k hk => ref_in_at h hx k hk⟩

theorem ref_More_l0 (l : List Int) (hb : Byt l) (hl : l.length ≤ 100000) : ∀ (d i c : Nat), c < 2 ^ 32 → i + d = l.length → Ev (fun k => lienref01_More.l0 k (c : Int) l (i : Int)) ((feedN c (l.drop i) ^^^ fullN : Nat) : Int)
  | 0, i, c, h, hi => by
    refine Ev.step (fun k => by rw [lienref01_More.l0]) ?_
    simp only [if_neg (show ¬ (i : Int) < (l.length : Int) by omega)]
    rw [List.drop_eq_nil_of_le (by omega), xor_full' h]
    exact Ev.now _
  | d + 1, i, c, h, hi => by
    have hlt : i < l.length := by omega
    refine Ev.step (fun k => by rw [lienref01_More.l0]) ?_
    simp only [if_pos (show (i : Int) < (l.length : Int) by omega), if_pos (show (0 : Int) ≤ (i : Int) by omega)]
    obtain ⟨x, hx, hx2⟩ : ∃ x : Nat, rd l (i : Int) = (x : Int) ∧ x < 256 := ⟨(rd l (i : Int)).toNat, by have := hb.rd (i : Int); omega, by have := hb.rd (i : Int); omega⟩
    rw [rd_drop hlt, hx]
    refine Ev.bind (ref_in_ev h hx2) ?_
    rw [show wrap64 ((i : Int) + 1) = ((i + 1 : Nat) : Int) by rw [wrap64_id (by omega) (by omega)]; omega]
    exact ref_More_l0 l hb hl d (i + 1) (inb c x) (inb_lt h hx2) (by omega)
theorem ref_More_ev {l : List Int} (hb : Byt l) (hl : l.length ≤ 100000) {c : Nat} (h : c < 2 ^ 32) : Ev (fun k => lienref01_More.f k (c : Int) l) ((moreN c l : Nat) : Int) := by
  unfold lienref01_More.f
  rw [xor_full' h]
  exact ref_More_l0 l hb hl l.length 0 _ (Nat.xor_lt_two_pow h full_lt) (by omega)
theorem ref_Of_ev {l : List Int} (hb : Byt l) (hl : l.length ≤ 100000) : Ev (fun k => lienref01_Of.f k l) ((ofN l : Nat) : Int) := by
  unfold lienref01_Of.f
  exact Ev.bind (ref_More_ev hb hl (c := 0) (by decide)) (Ev.now _)

theorem ref_check (x y z : Int) : lienref04_Check.f x y z = some (if 0 ≤ x ∧ x ≤ 2147483647 ∧ 0 ≤ y ∧ y ≤ 2147483647 ∧ 0 ≤ z ∧ z ≤ 2147483647 then 0 else 1) := by
  unfold lienref04_Check.f
  by_cases c : 0 ≤ x ∧ x ≤ 2147483647 ∧ 0 ≤ y ∧ y ≤ 2147483647 ∧ 0 ≤ z ∧ z ≤ 2147483647
  · rw [if_pos c, if_neg (by omega), if_neg (by omega), if_neg (by omega), if_neg (by omega), if_neg (by omega), if_neg (by omega)]
  · rw [if_neg c]
    (repeat' split) <;> first | rfl | (exfalso; omega)
theorem low_l0 (s : Nat) (hs : s ≤ 8) : ∀ (d i n : Nat) (out : List Int), i + d = s → n < 2 ^ 62 → out.length + d ≤ 1000 → Ev (fun k => lienref04_low.l0 k (n : Int) (s : Int) out (i : Int)) (out ++ leN d n)
  | 0, i, n, out, hi, hn, ho => by
    refine Ev.step (fun k => by rw [lienref04_low.l0]) ?_
    simp only [if_neg (show ¬ (i : Int) < (s : Int) by omega), leN, List.append_nil]
    exact Ev.now _
  | d + 1, i, n, out, hi, hn, ho => by
    refine Ev.step (fun k => by rw [lienref04_low.l0]) ?_
    simp only [if_pos (show (i : Int) < (s : Int) by omega), if_pos (show out.length < 140737488355328 by omega)]
    rw [show wrap64 (Int.tdiv (n : Int) 256) = ((n / 256 : Nat) : Int) by rw [Int.tdiv_eq_ediv_of_nonneg (by omega), wrap64_id (by omega) (by omega)]; omega,
      show Int.tmod (n : Int) 256 % 256 = ((n % 256 : Nat) : Int) by rw [Int.tmod_eq_emod_of_nonneg (by omega)]; omega,
      show wrap64 ((i : Int) + 1) = ((i + 1 : Nat) : Int) by rw [wrap64_id (by omega) (by omega)]; omega]
    have e := low_l0 s hs d (i + 1) (n / 256) (out ++ [((n % 256 : Nat) : Int)]) (by omega) (by omega) (by rw [List.length_append, List.length_singleton]; omega)
    rw [List.append_assoc, List.singleton_append] at e
    exact e

theorem low_ev {n s : Nat} (hn : n < 2 ^ 62) (hs : s ≤ 8) : Ev (fun k => lienref04_low.f k (n : Int) (s : Int)) (leN s n) := by
  unfold lienref04_low.f
  have e := low_l0 s hs s 0 n [] (by omega) hn (by simp; omega)
  rw [List.nil_append] at e
  exact e
theorem pad_l0 : ∀ (d : Nat) (x : List Int), Byt x → x.length + d = 124 → Ev (fun k => lienref04_Encode.l0 k x) (x ++ List.replicate d 0 ++ leN 4 (ofN (x ++ List.replicate d 0)), 0)
  | 0, x, hb, hx => by
    rw [List.replicate_zero, List.append_nil]
    have h4 := ofN_lt hb
    refine Ev.step (fun k => by rw [lienref04_Encode.l0]) ?_
    simp only [if_neg (show ¬ (x.length : Int) < 124 by omega)]
    refine Ev.bind (ref_Of_ev hb (by omega)) ?_
    rw [wrap64_id (x := ((ofN x : Nat) : Int)) (by omega) (by omega)]
    refine Ev.bind (low_ev (s := 4) (by omega) (by decide)) ?_
    simp only [leN_len, if_pos (show x.length + 4 < 140737488355328 by omega)]
    exact Ev.now _
  | d + 1, x, hb, hx => by
    refine Ev.step (fun k => by rw [lienref04_Encode.l0]) ?_
    simp only [if_pos (show (x.length : Int) < 124 by omega), if_pos (show x.length < 140737488355328 by omega)]
    have e := pad_l0 d (x ++ [0]) (byt_app hb (fun y hy => by have := List.mem_singleton.1 hy; omega)) (by rw [List.length_append, List.length_singleton]; omega)
    rw [List.append_assoc x [0], List.singleton_append, ← List.replicate_succ] at e
    exact e
theorem ref_enc_some {n0 n1 n2 kd : Nat} {p : List Int} (ho : okN n0 n1 n2 kd p) (hb : Byt p) : Ev (fun k => lienref04_Encode.f k (n0 : Int) (n1 : Int) (n2 : Int) (kd : Int) p) (encN n0 n1 n2 kd p, 0) := by
  obtain ⟨h0, h1, h2, h3, h4, h5⟩ := ho
  unfold lienref04_Encode.f
  rw [ref_check, if_pos (show 0 ≤ (n0 : Int) ∧ (n0 : Int) ≤ 2147483647 ∧ 0 ≤ (n1 : Int) ∧ (n1 : Int) ≤ 2147483647 ∧ 0 ≤ (n2 : Int) ∧ (n2 : Int) ≤ 2147483647 by omega)]
  simp only [Option.bind_some, if_true, if_neg (show ¬ (kd : Int) < 1 by omega)]
  rw [show decide ((kd : Int) > 4) = false from decide_eq_false (by omega)]
  refine Ev.step (fun k => by rw [lienref04_Encode.j0]) ?_
  simp only [Bool.false_eq_true, if_false, if_neg (show ¬ (p.length : Int) > 108 by omega), Option.bind_some]
  refine Ev.bind (low_ev (s := 2) (by omega) (by decide)) ?_
  have e0 : ([76, (kd : Int) % 256] : List Int) = leN 1 76 ++ leN 1 kd := by
    show _ = [((76 % 256 : Nat) : Int), ((kd % 256 : Nat) : Int)]
    rw [show ((kd % 256 : Nat) : Int) = (kd : Int) % 256 by omega]
    rfl
  rw [e0]
  simp only [List.length_append, leN_len]
  refine Ev.bind (low_ev (s := 4) (n := n0) (by omega) (by decide)) ?_
  simp only [List.length_append, leN_len]
  refine Ev.bind (low_ev (s := 4) (n := n1) (by omega) (by decide)) ?_
  simp only [List.length_append, leN_len]
  refine Ev.bind (low_ev (s := 4) (n := n2) (by omega) (by decide)) ?_
  simp only [List.length_append, leN_len]
  simp only [if_pos (show 1 + 1 + 2 + 4 + 4 + 4 + p.length < 140737488355328 by omega)]
  have e := pad_l0 (108 - p.length) (headN n0 n1 n2 kd p.length ++ p) (by unfold headN; exact byt_app (byt_app (byt_app (byt_app (byt_app (byt_app (leN_byt _ _) (leN_byt _ _)) (leN_byt _ _)) (leN_byt _ _)) (leN_byt _ _)) (leN_byt _ _)) hb) (by rw [List.length_append, headN_len]; omega)
  exact e
theorem ref_enc_bad1 {x y z kd : Int} {p : List Int} (h : ¬ (0 ≤ x ∧ x ≤ 2147483647 ∧ 0 ≤ y ∧ y ≤ 2147483647 ∧ 0 ≤ z ∧ z ≤ 2147483647 ∧ 1 ≤ kd ∧ kd ≤ 4)) : Ev (fun k => lienref04_Encode.f k x y z kd p) ([], 1) := by
  have j : Ev (fun k => lienref04_Encode.j0 k kd p true x y z) ([], 1) := by
    refine Ev.step (fun k => by rw [lienref04_Encode.j0]) ?_
    simp only [if_true]
    exact Ev.now _
  unfold lienref04_Encode.f
  rw [ref_check]
  by_cases c : 0 ≤ x ∧ x ≤ 2147483647 ∧ 0 ≤ y ∧ y ≤ 2147483647 ∧ 0 ≤ z ∧ z ≤ 2147483647
  · rw [if_pos c]
    simp only [Option.bind_some, if_true]
    by_cases c2 : kd < 1
    · simp only [if_pos c2]
      exact j
    · simp only [if_neg c2]
      rw [show decide (kd > 4) = true from decide_eq_true (by omega)]
      exact j
  · rw [if_neg c]
    simp only [Option.bind_some, if_neg (show ¬ (1 : Int) = 0 by decide)]
    exact j
theorem ref_enc_bad2 {x y z kd : Int} {p : List Int} (h : 0 ≤ x ∧ x ≤ 2147483647 ∧ 0 ≤ y ∧ y ≤ 2147483647 ∧ 0 ≤ z ∧ z ≤ 2147483647 ∧ 1 ≤ kd ∧ kd ≤ 4) (hl : 108 < p.length) : Ev (fun k => lienref04_Encode.f k x y z kd p) ([], 2) := by
  unfold lienref04_Encode.f
  rw [ref_check, if_pos (show 0 ≤ x ∧ x ≤ 2147483647 ∧ 0 ≤ y ∧ y ≤ 2147483647 ∧ 0 ≤ z ∧ z ≤ 2147483647 by omega)]
  simp only [Option.bind_some, if_true, if_neg (show ¬ kd < 1 by omega)]
  rw [show decide (kd > 4) = false from decide_eq_false (by omega)]
  refine Ev.step (fun k => by rw [lienref04_Encode.j0]) ?_
  simp only [Bool.false_eq_true, if_false, if_pos (show (p.length : Int) > 108 by omega)]
  exact Ev.now _
/-- Both: the same. -/
theorem enc_both (x y z kd : Int) {p : List Int} (hb : Byt p) : ∃ v, frame_Encode.f x y z kd p = some v ∧ Ev (fun k => lienref04_Encode.f k x y z kd p) v ∧ ((v.2 = 0 ∧ ∃ n0 n1 n2 kn : Nat, x = (n0 : Int) ∧ y = (n1 : Int) ∧ z = (n2 : Int) ∧ kd = (kn : Int) ∧ okN n0 n1 n2 kn p ∧ v.1 = encN n0 n1 n2 kn p) ∨ (v.2 ≠ 0 ∧ v.1 = [])) := by
  by_cases c : 0 ≤ x ∧ x ≤ 2147483647 ∧ 0 ≤ y ∧ y ≤ 2147483647 ∧ 0 ≤ z ∧ z ≤ 2147483647 ∧ 1 ≤ kd ∧ kd ≤ 4
  · by_cases c2 : 108 < p.length
    · exact ⟨_, enc_bad2 c c2, ref_enc_bad2 c c2, .inr ⟨by decide, rfl⟩⟩
    · obtain ⟨n0, rfl⟩ : ∃ n : Nat, x = (n : Int) := ⟨x.toNat, by omega⟩
      obtain ⟨n1, rfl⟩ : ∃ n : Nat, y = (n : Int) := ⟨y.toNat, by omega⟩
      obtain ⟨n2, rfl⟩ : ∃ n : Nat, z = (n : Int) := ⟨z.toNat, by omega⟩
      obtain ⟨kn, rfl⟩ : ∃ n : Nat, kd = (n : Int) := ⟨kd.toNat, by omega⟩
      have ho : okN n0 n1 n2 kn p := ⟨by omega, by omega, by omega, by omega, by omega, by omega⟩
      exact ⟨_, enc_some ho hb, ref_enc_some ho hb, .inl ⟨rfl, n0, n1, n2, kn, rfl, rfl, rfl, rfl, ho, rfl⟩⟩
  · exact ⟨_, enc_bad1 c, ref_enc_bad1 c, .inr ⟨by decide, rfl⟩⟩

def seg (a b : Nat) (l : List Int) : List Int := (l.take b).drop a
theorem seg_len {a b : Nat} {l : List Int} (h : b ≤ l.length) : (seg a b l).length = b - a := by
  unfold seg; rw [List.length_drop, List.length_take]; omega
theorem seg_byt {a b : Nat} {l : List Int} (h : Byt l) : Byt (seg a b l) := (h.take b).drop a
theorem seg_join {a b c : Nat} (l : List Int) (h1 : a ≤ b) (h2 : b ≤ c) : seg a b l ++ seg b c l = seg a c l := by
  unfold seg
  have e : (l.take c).drop b = ((l.take c).drop a).drop (b - a) := by rw [List.drop_drop, show a + (b - a) = b by omega]
  have e2 : (l.take b).drop a = ((l.take c).drop a).take (b - a) := by
    rw [List.take_drop, List.take_take, show min (a + (b - a)) c = b by omega]
  rw [e, e2, List.take_append_drop]
theorem seg_all (l : List Int) : seg 0 l.length l = l := by unfold seg; rw [List.take_length, List.drop_zero]
theorem seg_one {a : Nat} {l : List Int} (h : a < l.length) : seg a (a + 1) l = [rd l (a : Int)] := by
  unfold seg
  rw [List.take_succ_eq_append_getElem h, List.drop_append_of_le_length (by rw [List.length_take]; omega), List.drop_eq_nil_of_le (by rw [List.length_take]; omega), List.nil_append, rd_nat]
  simp [List.getD_eq_getElem?_getD, List.getElem?_eq_getElem h]
theorem seg_le {l : List Int} (hb : Byt l) : ∀ (s a : Nat), a + s ≤ l.length → leN s (frNum s a l) = seg a (a + s) l
  | 0, a, h => by unfold seg; rw [leN, Nat.add_zero, List.drop_eq_nil_of_le (by rw [List.length_take]; omega)]
  | s + 1, a, h => by
    have hr := hb.rd (a : Int)
    have ih := seg_le hb s (a + 1) (by omega)
    rw [frNum, leN, show ((rd l (a : Int)).toNat + 256 * frNum s (a + 1) l) / 256 = frNum s (a + 1) l by omega, ih,
      ← seg_join l (show a ≤ a + 1 by omega) (show a + 1 ≤ a + (s + 1) by omega), seg_one (by omega), show a + 1 + s = a + (s + 1) by omega,
      show (((rd l (a : Int)).toNat + 256 * frNum s (a + 1) l) % 256 : Nat) = (rd l (a : Int)).toNat by omega, show (((rd l (a : Int)).toNat : Nat) : Int) = rd l (a : Int) by omega]
    rfl
theorem leN_inj {s : Nat} : ∀ {m n : Nat}, m < 256 ^ s → n < 256 ^ s → leN s m = leN s n → m = n := by
  induction s with
  | zero => intro m n h1 h2 _; simp at h1 h2; omega
  | succ s ih =>
    intro m n h1 h2 h
    rw [leN, leN] at h
    injection h with e1 e2
    rw [Nat.pow_succ] at h1 h2
    have := ih (m := m / 256) (n := n / 256) (by omega) (by omega) e2
    omega
theorem frNum_lt' {l : List Int} (hb : Byt l) (s a : Nat) : frNum s a l < 256 ^ s := frNum_lt (fun i => by have := hb.rd i; omega) s a
def longN (l : List Int) : Nat := frNum 2 2 l
def payN (l : List Int) : List Int := seg 16 (16 + longN l) l
def backN (l : List Int) : List Int := encN (frNum 4 4 l) (frNum 4 8 l) (frNum 4 12 l) (frNum 1 1 l) (payN l)
theorem payN_len {l : List Int} (h : l.length = 128) (hl : longN l ≤ 108) : (payN l).length = longN l := by unfold payN; rw [seg_len (by omega)]; omega
theorem body_back {l : List Int} (hb : Byt l) (h : l.length = 128) (hl : longN l ≤ 108) : bodyN (frNum 4 4 l) (frNum 4 8 l) (frNum 4 12 l) (frNum 1 1 l) (payN l) = [76] ++ seg 1 (16 + longN l) l ++ List.replicate (108 - longN l) 0 := by
  unfold bodyN headN
  rw [payN_len h hl]
  have e1 := seg_le hb 1 1 (by omega)
  have e2 := seg_le hb 2 2 (by omega)
  have e3 := seg_le hb 4 4 (by omega)
  have e4 := seg_le hb 4 8 (by omega)
  have e5 := seg_le hb 4 12 (by omega)
  rw [e1, show leN 2 (longN l) = seg 2 (2 + 2) l from e2, e3, e4, e5]
  unfold payN
  have j1 := seg_join l (show 1 ≤ 1 + 1 by omega) (show 1 + 1 ≤ 2 + 2 by omega)
  have j2 := seg_join l (show 1 ≤ 2 + 2 by omega) (show 2 + 2 ≤ 4 + 4 by omega)
  have j3 := seg_join l (show 1 ≤ 4 + 4 by omega) (show 4 + 4 ≤ 8 + 4 by omega)
  have j4 := seg_join l (show 1 ≤ 8 + 4 by omega) (show 8 + 4 ≤ 12 + 4 by omega)
  have j5 := seg_join l (show 1 ≤ 12 + 4 by omega) (show 12 + 4 ≤ 16 + longN l by omega)
  rw [← j5, ← j4, ← j3, ← j2, ← j1]
  simp only [List.append_assoc]
  rfl
theorem zeros_rep {z : List Int} : z.all (fun x => x == 0) = true ↔ z = List.replicate z.length 0 := by
  rw [List.all_eq_true, List.eq_replicate_iff]
  constructor
  · intro h
    exact ⟨rfl, fun x hx => by simpa using h x hx⟩
  · intro h x hx
    simpa using h.2 x hx
/-- When the bytes are just those that their parts make. -/
theorem back_iff {l : List Int} (hb : Byt l) (h : l.length = 128) (hl : longN l ≤ 108) : backN l = l ↔ (rd l 0 = 76 ∧ (seg (16 + longN l) 124 l).all (fun x => x == 0) = true ∧ frNum 4 124 l = ofN (l.take 124)) := by
  have hbody := body_back hb h hl
  have hbl := bodyN_len (frNum 4 4 l) (frNum 4 8 l) (frNum 4 12 l) (frNum 1 1 l) (p := payN l) (by rw [payN_len h hl]; exact hl)
  have hbb := bodyN_byt (frNum 4 4 l) (frNum 4 8 l) (frNum 4 12 l) (frNum 1 1 l) (p := payN l) (seg_byt hb)
  have hsp : l = l.take 124 ++ seg 124 128 l := by
    have := seg_join l (show 0 ≤ 124 by omega) (show 124 ≤ 128 by omega)
    have e := seg_all l
    rw [h] at e
    rw [e] at this
    rw [← this]
    conv => rhs; rw [this]
    unfold seg
    rw [List.drop_zero]
  have hs2 : l.take 124 = [rd l 0] ++ seg 1 (16 + longN l) l ++ seg (16 + longN l) 124 l := by
    have j1 := seg_join l (show 0 ≤ 0 + 1 by omega) (show 0 + 1 ≤ 16 + longN l by omega)
    have j2 := seg_join l (show 0 ≤ 16 + longN l by omega) (show 16 + longN l ≤ 124 by omega)
    rw [seg_one (a := 0) (by omega)] at j1
    have e : seg 0 124 l = l.take 124 := by unfold seg; rw [List.drop_zero]
    rw [← e, ← j2, ← j1]
    rfl
  have hn4 : leN 4 (frNum 4 124 l) = seg 124 128 l := seg_le hb 4 124 (by omega)
  have key1 : bodyN (frNum 4 4 l) (frNum 4 8 l) (frNum 4 12 l) (frNum 1 1 l) (payN l) = l.take 124 ↔ (rd l 0 = 76 ∧ (seg (16 + longN l) 124 l).all (fun x => x == 0) = true) := by
    rw [hbody, hs2, zeros_rep, seg_len (show 124 ≤ l.length by omega), show 124 - (16 + longN l) = 108 - longN l by omega]
    constructor
    · intro e
      obtain ⟨e1, e2⟩ := List.append_inj e (by simp only [List.length_append, List.length_singleton])
      obtain ⟨e3, _⟩ := List.append_inj e1 rfl
      injection e3 with e4
      exact ⟨e4.symm, e2.symm⟩
    · rintro ⟨e1, e2⟩
      rw [e1, ← e2]
  unfold backN encN
  generalize bodyN (frNum 4 4 l) (frNum 4 8 l) (frNum 4 12 l) (frNum 1 1 l) (payN l) = b at hbl hbb key1
  constructor
  · intro e
    have e' : b ++ leN 4 (ofN b) = l.take 124 ++ seg 124 128 l := e.trans hsp
    obtain ⟨e1, e2⟩ := List.append_inj e' (by rw [hbl, List.length_take]; omega)
    have k := key1.1 e1
    refine ⟨k.1, k.2, ?_⟩
    rw [← hn4] at e2
    rw [← e1]
    exact (leN_inj (s := 4) (by have := ofN_lt hbb; omega) (frNum_lt' hb 4 124) e2).symm
  · rintro ⟨e1, e2, e3⟩
    have k := key1.2 ⟨e1, e2⟩
    rw [k, ← e3, hn4]
    exact hsp.symm

theorem str_eq {a b : List Int} (ha : Byt a) (hb : Byt b) : (strOfNums a).toList = (strOfNums b).toList ↔ a = b := by
  constructor
  · intro h
    have e := congrArg bytesOf (ba_ext h)
    rwa [bytesOf_nums ha, bytesOf_nums hb] at e
  · intro h
    rw [h]
theorem rd_seg {l : List Int} {a b i : Nat} (h : a + i < b) (hb : b ≤ l.length) : rd (seg a b l) (i : Int) = rd l ((a + i : Nat) : Int) := by
  rw [rd_nat, rd_nat]
  unfold seg
  rw [List.getD_eq_getElem?_getD, List.getD_eq_getElem?_getD, List.getElem?_drop, List.getElem?_take, if_pos h]
theorem frNum_seg {l : List Int} {a b : Nat} (hb : b ≤ l.length) : ∀ (s i : Nat), a + i + s ≤ b → frNum s i (seg a b l) = frNum s (a + i) l
  | 0, _, _ => rfl
  | s + 1, i, h => by
    rw [frNum, frNum, rd_seg (by omega) hb, frNum_seg hb s (i + 1) (by omega), show a + (i + 1) = a + i + 1 by omega]
theorem number_l0 (x : List Int) (hb : Byt x) : ∀ (j acc : Nat), j ≤ x.length → j ≤ 4 → 256 ^ j * (acc + 1) ≤ 2 ^ 40 → Ev (fun k => lienref04_number.l0 k x (acc : Int) ((j : Int) - 1)) ((frNum j 0 x + 256 ^ j * acc : Nat) : Int)
  | 0, acc, _, _, _ => by
    refine Ev.step (fun k => by rw [lienref04_number.l0]) ?_
    simp only [if_neg (show ¬ ((0 : Nat) : Int) - 1 ≥ 0 by omega)]
    rw [frNum, Nat.pow_zero, Nat.one_mul, Nat.zero_add]
    exact Ev.now _
  | j + 1, acc, h, h4, hm => by
    have hr := hb.rd (j : Int)
    obtain ⟨r, hr1, hr2⟩ : ∃ r : Nat, rd x (j : Int) = (r : Int) ∧ r < 256 := ⟨(rd x (j : Int)).toNat, by omega, by omega⟩
    have hp : 0 < 256 ^ j := Nat.pow_pos (by decide)
    have hpow : 256 ^ (j + 1) = 256 ^ j * 256 := Nat.pow_succ ..
    have hacc : 256 ^ j * ((acc * 256 + r) + 1) ≤ 2 ^ 40 := by
      refine Nat.le_trans ?_ hm
      rw [hpow, Nat.mul_assoc]
      exact Nat.mul_le_mul_left _ (by omega)
    have hacc2 : acc * 256 + r < 2 ^ 40 := by
      refine Nat.lt_of_lt_of_le (Nat.lt_succ_self _) (Nat.le_trans ?_ hacc)
      exact Nat.le_mul_of_pos_left _ hp
    refine Ev.step (fun k => by rw [lienref04_number.l0]) ?_
    rw [show (((j + 1 : Nat) : Int) - 1) = (j : Int) by omega]
    simp only [if_pos (show (j : Int) ≥ 0 by omega), if_pos (show (0 : Int) ≤ (j : Int) by omega), if_pos (show (j : Int) < (x.length : Int) by omega)]
    rw [hr1, wrap64_id (x := (r : Int)) (by omega) (by omega), wrap64_id (x := (acc : Int) * 256) (by omega) (by omega), wrap64_id (by omega) (by omega), wrap64_id (x := (j : Int) - 1) (by omega) (by omega),
      show (acc : Int) * 256 + (r : Int) = ((acc * 256 + r : Nat) : Int) by omega]
    have e := number_l0 x hb j (acc * 256 + r) (by omega) (by omega) hacc
    have e2 : frNum (j + 1) 0 x + 256 ^ (j + 1) * acc = frNum j 0 x + 256 ^ j * (acc * 256 + r) := by
      rw [frNum_snoc, Nat.zero_add, hr1, Int.toNat_natCast, hpow, Nat.mul_add, Nat.mul_assoc, Nat.mul_comm 256 acc]
      omega
    rw [e2]
    exact e
theorem number_ev {l : List Int} (hb : Byt l) {a b : Nat} (hl : b ≤ l.length) (h : a ≤ b) (h4 : b - a ≤ 4) : Ev (fun k => lienref04_number.f k ((l.take b).drop a)) ((frNum (b - a) a l : Nat) : Int) := by
  have e := number_l0 (seg a b l) (seg_byt hb) (b - a) 0 (by rw [seg_len hl]; omega) h4 (by
    have : 256 ^ (b - a) ≤ 256 ^ 4 := Nat.pow_le_pow_right (by decide) h4
    have h2 : (256 : Nat) ^ 4 = 4294967296 := rfl
    omega)
  unfold lienref04_number.f
  have hlen : (((l.take b).drop a).length : Int) = ((b - a : Nat) : Int) := by
    have := seg_len (a := a) hl
    unfold seg at this
    omega
  rw [hlen, wrap64_id (by omega) (by omega)]
  rw [Nat.mul_zero, Nat.add_zero, frNum_seg hl (b - a) 0 (by omega), Nat.add_zero] at e
  exact e
theorem number_ev2 {l : List Int} (hb : Byt l) {a b : Nat} (s : Nat) (hl : b ≤ l.length) (h : b = a + s) (h4 : s ≤ 4) : Ev (fun k => lienref04_number.f k ((l.take b).drop a)) ((frNum s a l : Nat) : Int) := by
  have e := number_ev hb (a := a) (b := b) hl (by omega) (by omega)
  rw [show b - a = s by omega] at e
  exact e
def goodN (l : List Int) : Prop := longN l ≤ 108 ∧ frNum 4 4 l < 2147483648 ∧ frNum 4 8 l < 2147483648 ∧ frNum 4 12 l < 2147483648 ∧ 1 ≤ frNum 1 1 l ∧ frNum 1 1 l ≤ 4 ∧ backN l = l
def valN (l : List Int) : Int × Int × Int × Int × List Int × Int := ((frNum 4 4 l : Nat), (frNum 4 8 l : Nat), (frNum 4 12 l : Nat), (frNum 1 1 l : Nat), payN l, 0)
def badN : Int × Int × Int × Int × List Int × Int := (0, 0, 0, 0, [], 40)
theorem dec_good {l : List Int} (hb : Byt l) (h : l.length = 128) (hg : goodN l) : frame_Decode.f l = some (valN l) := by
  obtain ⟨g1, g2, g3, g4, g5, g6, g7⟩ := hg
  obtain ⟨k1, k2, k3⟩ := (back_iff hb h g1).1 g7
  have k2' : ((l.take 124).drop (16 + frNum 2 2 l)).all (fun x => x == 0) = true := k2
  unfold frame_Decode.f frDec1 frDec2
  rw [if_pos h, if_pos k1, if_pos (bytesOk_of hb), known_some, Option.bind_some, if_pos (by simp; omega), if_neg (show ¬ 108 < frNum 2 2 l from by unfold longN at g1; omega), if_neg (by omega), if_neg (by omega), if_neg (by omega), if_pos k2', of_some (hb.take 124), Option.bind_some, if_pos (by omega)]
  rfl
theorem dec_bad {l : List Int} (hb : Byt l) (hg : ¬ (l.length = 128 ∧ goodN l)) : frame_Decode.f l = some badN := by
  unfold frame_Decode.f frDec1 frDec2 frBad
  by_cases c0 : l.length = 128
  · rw [if_pos c0]
    by_cases c1 : rd l 0 = 76
    · rw [if_pos c1, if_pos (bytesOk_of hb), known_some, Option.bind_some]
      by_cases c2 : 1 ≤ frNum 1 1 l ∧ frNum 1 1 l ≤ 4
      · rw [if_pos (by simp; omega)]
        by_cases c3 : 108 < frNum 2 2 l
        · rw [if_pos c3]; rfl
        rw [if_neg c3]
        by_cases c4 : 2147483647 < frNum 4 4 l
        · rw [if_pos c4]; rfl
        rw [if_neg c4]
        by_cases c5 : 2147483647 < frNum 4 8 l
        · rw [if_pos c5]; rfl
        rw [if_neg c5]
        by_cases c6 : 2147483647 < frNum 4 12 l
        · rw [if_pos c6]; rfl
        rw [if_neg c6]
        by_cases c7 : ((l.take 124).drop (16 + frNum 2 2 l)).all (fun x => x == 0) = true
        · rw [if_pos c7, of_some (hb.take 124), Option.bind_some]
          by_cases c8 : ((frNum 4 124 l : Nat) : Int) = ((ofN (l.take 124) : Nat) : Int)
          · exact absurd ⟨c0, by unfold longN; omega, by omega, by omega, by omega, c2.1, c2.2, (back_iff hb c0 (by unfold longN; omega)).2 ⟨c1, c7, by omega⟩⟩ hg
          · rw [if_neg c8]; rfl
        · rw [if_neg c7]; rfl
      · rw [if_neg (by simp; omega)]; rfl
    · rw [if_neg c1]; rfl
  · rw [if_neg c0]; rfl
theorem ref_dec_core {l : List Int} (c0 : l.length = 128) (n n0 n1 n2 kd : Nat) (p : List Int) (v' : Int × Int × Int × Int × List Int × Int)
    (e1 : Ev (fun k => lienref04_number.f k ((l.take 4).drop 2)) (n : Int)) (e2 : Ev (fun k => lienref04_number.f k ((l.take 8).drop 4)) (n0 : Int)) (e3 : Ev (fun k => lienref04_number.f k ((l.take 12).drop 8)) (n1 : Int)) (e4 : Ev (fun k => lienref04_number.f k ((l.take 16).drop 12)) (n2 : Int))
    (hk : wrap64 (rd l 1) = (kd : Int)) (hp : n ≤ 108 → (l.take (16 + n)).drop 16 = p ∧ p.length = n)
    (h1 : n ≤ 108 → Ev (fun k => (lienref04_Encode.f k (n0 : Int) (n1 : Int) (n2 : Int) (kd : Int) p).bind fun bt => if bt.2 = 0 then if (strOfNums bt.1).toList = (strOfNums l).toList then some ((n0 : Int), (n1 : Int), (n2 : Int), (kd : Int), p, 0) else some (0, 0, 0, 0, [], 40) else some (0, 0, 0, 0, [], 40)) v') (h2 : 108 < n → v' = badN) : Ev (fun k => lienref04_Decode.f k l) v' := by
  unfold lienref04_Decode.f
  rw [hk]
  simp only [c0]
  simp only [if_pos (show ((128 : Nat) : Int) = 128 by decide), if_pos (show (2 : Int) ≤ 4 by decide), if_pos (show (4 : Int) ≤ ((128 : Nat) : Int) by decide), if_pos (show (4 : Int) ≤ 8 by decide), if_pos (show (8 : Int) ≤ ((128 : Nat) : Int) by decide), if_pos (show (8 : Int) ≤ 12 by decide), if_pos (show (12 : Int) ≤ ((128 : Nat) : Int) by decide), if_pos (show (12 : Int) ≤ 16 by decide), if_pos (show (16 : Int) ≤ ((128 : Nat) : Int) by decide), if_pos (show (1 : Int) < ((128 : Nat) : Int) by decide)]
  refine Ev.bind e1 ?_
  refine Ev.bind e2 ?_
  refine Ev.bind e3 ?_
  refine Ev.bind e4 ?_
  by_cases c1 : 108 < n
  · rw [h2 c1]
    simp only [if_pos (show (n : Int) > 108 by omega)]
    exact Ev.now _
  · have hw : wrap64 (16 + (n : Int)) = ((16 + n : Nat) : Int) := by rw [wrap64_id (by omega) (by omega)]; omega
    obtain ⟨hp1, hp2⟩ := hp (by omega)
    rw [hw]
    simp only [if_neg (show ¬ (n : Int) > 108 by omega)]
    refine Ev.bind (Ev.now ([] : List Int)) ?_
    simp only [if_pos (show (16 : Int) ≤ ((16 + n : Nat) : Int) by omega), if_pos (show ((16 + n : Nat) : Int) ≤ ((128 : Nat) : Int) by omega)]
    rw [Int.toNat_natCast, hp1, hp2]
    simp only [if_pos (show ([] : List Int).length + n < 140737488355328 by rw [List.length_nil]; omega)]
    refine Ev.bind (Ev.now p) ?_
    exact h1 (by omega)
theorem ref_dec_ev {l : List Int} (hb : Byt l) : ∃ v, Ev (fun k => lienref04_Decode.f k l) v ∧ (v = valN l ∧ l.length = 128 ∧ goodN l ∨ v = badN ∧ ¬ (l.length = 128 ∧ goodN l)) := by
  by_cases c0 : l.length = 128
  · have f1 : frNum 1 1 l = (rd l 1).toNat := by rw [frNum, frNum]; rfl
    have r1 := hb.rd 1
    have f2 : wrap64 (rd l 1) = ((frNum 1 1 l : Nat) : Int) := by rw [wrap64_id (by omega) (by omega), f1]; omega
    obtain ⟨v, e1, e2, e3⟩ := enc_both (frNum 4 4 l : Nat) (frNum 4 8 l : Nat) (frNum 4 12 l : Nat) (frNum 1 1 l : Nat) (p := payN l) (seg_byt hb)
    have hgo : ∀ v', (longN l ≤ 108 → Ev (fun k => (lienref04_Encode.f k (frNum 4 4 l : Nat) (frNum 4 8 l : Nat) (frNum 4 12 l : Nat) (frNum 1 1 l : Nat) (payN l)).bind fun bt => if bt.2 = 0 then if (strOfNums bt.1).toList = (strOfNums l).toList then some (((frNum 4 4 l : Nat) : Int), ((frNum 4 8 l : Nat) : Int), ((frNum 4 12 l : Nat) : Int), ((frNum 1 1 l : Nat) : Int), payN l, 0) else some (0, 0, 0, 0, [], 40) else some (0, 0, 0, 0, [], 40)) v') → (108 < longN l → v' = badN) → Ev (fun k => lienref04_Decode.f k l) v' := fun v' h1 h2 =>
      ref_dec_core c0 (longN l) (frNum 4 4 l) (frNum 4 8 l) (frNum 4 12 l) (frNum 1 1 l) (payN l) v' (number_ev2 hb (a := 2) (b := 4) 2 (by omega) rfl (by decide)) (number_ev2 hb (a := 4) (b := 8) 4 (by omega) rfl (by decide)) (number_ev2 hb (a := 8) (b := 12) 4 (by omega) rfl (by decide)) (number_ev2 hb (a := 12) (b := 16) 4 (by omega) rfl (by decide)) f2 (fun h => ⟨rfl, payN_len c0 h⟩) h1 h2
    by_cases c1 : 108 < longN l
    · exact ⟨badN, hgo _ (fun h => absurd h (by omega)) (fun _ => rfl), .inr ⟨rfl, fun h => by have := h.2.1; omega⟩⟩
    · rcases e3 with ⟨z, n0, n1, n2, kn, q0, q1, q2, q3, ho, hv⟩ | ⟨z, _⟩
      · obtain rfl : frNum 4 4 l = n0 := by omega
        obtain rfl : frNum 4 8 l = n1 := by omega
        obtain rfl : frNum 4 12 l = n2 := by omega
        obtain rfl : frNum 1 1 l = kn := by omega
        have hv' : v.1 = backN l := hv
        by_cases c2 : backN l = l
        · refine ⟨valN l, hgo _ (fun _ => Ev.bind e2 ?_) (fun h => absurd h c1), .inl ⟨rfl, c0, by omega, ho.1, ho.2.1, ho.2.2.1, ho.2.2.2.1, ho.2.2.2.2.1, c2⟩⟩
          simp only [z, if_true, hv', c2]
          exact Ev.now _
        · refine ⟨badN, hgo _ (fun _ => Ev.bind e2 ?_) (fun h => absurd h c1), .inr ⟨rfl, fun h => c2 h.2.2.2.2.2.2.2⟩⟩
          simp only [z, if_true, hv']
          rw [if_neg (show ¬ (strOfNums (backN l)).toList = (strOfNums l).toList from fun h => c2 ((str_eq (encN_byt _ _ _ _ (seg_byt hb)) hb).1 h))]
          exact Ev.now _
      · refine ⟨badN, hgo _ (fun _ => Ev.bind e2 ?_) (fun h => absurd h c1), .inr ⟨rfl, fun h => ?_⟩⟩
        · simp only [if_neg z]
          exact Ev.now _
        · obtain ⟨g1, g2, g3, g4, g5, g6, g7⟩ := h.2
          have := enc_some (p := payN l) ⟨g2, g3, g4, g5, g6, by rw [payN_len c0 g1]; exact g1⟩ (seg_byt hb)
          rw [e1] at this
          have e := Option.some.inj this
          rw [e] at z
          exact z rfl
  · refine ⟨badN, ?_, .inr ⟨rfl, fun h => c0 h.1⟩⟩
    unfold lienref04_Decode.f
    simp only [if_neg (show ¬ (l.length : Int) = 128 by omega)]
    exact Ev.now _
theorem dec_both {l : List Int} (hb : Byt l) : ∃ v, frame_Decode.f l = some v ∧ Ev (fun k => lienref04_Decode.f k l) v ∧ (v = valN l ∧ l.length = 128 ∧ goodN l ∨ v = badN ∧ ¬ (l.length = 128 ∧ goodN l)) := by
  obtain ⟨v, h1, h2⟩ := ref_dec_ev hb
  refine ⟨v, ?_, h1, h2⟩
  rcases h2 with ⟨rfl, h3, h4⟩ | ⟨rfl, h3⟩
  · exact dec_good hb h3 h4
  · exact dec_bad hb h3

theorem is_both {l : List Int} (hb : Byt l) (x y z k : Int) : ∃ b, frame_Is.f l x y z k = some b ∧ Ev (fun n => lienref04_Is.f n l x y z k) b := by
  obtain ⟨v, h1, h2, _⟩ := dec_both hb
  obtain ⟨v1, v2, v3, v4, v5, v6⟩ := v
  refine ⟨decide (v6 = 0 ∧ v4 = k ∧ v1 = x ∧ v3 = z ∧ v2 ≥ y), ?_, ?_⟩
  · unfold frame_Is.f
    rw [h1, Option.bind_some]
    show (if v6 = 0 then (if v4 = k then (if v1 = x then (if v3 = z then (some (decide (v2 ≥ y))) else (some false)) else (some false)) else (some false)) else (some false)) = _
    by_cases c1 : v6 = 0 <;> by_cases c2 : v4 = k <;> by_cases c3 : v1 = x <;> by_cases c4 : v3 = z <;> simp [c1, c2, c3, c4]
  · unfold lienref04_Is.f
    refine Ev.bind h2 ?_
    refine Ev.congr (f := fun _ => some (decide (v6 = 0 ∧ v4 = k ∧ v1 = x ∧ v3 = z ∧ v2 ≥ y))) (fun n => ?_) (Ev.now _)
    show (if v6 = 0 then (if v1 = x then (if v3 = z then (if v2 ≥ y then (some (v4 == k)) else (some false)) else (some false)) else (some false)) else (some false)) = _
    by_cases c1 : v6 = 0 <;> by_cases c2 : v4 = k <;> by_cases c3 : v1 = x <;> by_cases c4 : v3 = z <;> by_cases c5 : v2 ≥ y <;> simp [c1, c2, c3, c4, c5]
theorem FrameIs : lienlaw04_FrameIs.Pure := by
  intro l x y z k hw _ _ _ _
  obtain ⟨t, ht, hl, hb⟩ := fcut_some l (Byt.of_wf hw.2.2)
  obtain ⟨b, h1, h2⟩ := is_both hb x y z k
  refine Ev.rounds ?_
  unfold lienlaw04_FrameIs.f
  simp only [ht, h1, Option.bind_some]
  refine Ev.bind h2 ?_
  simp only [beq_self_eq_true, if_true]
  exact Ev.bind awake04 (Ev.now true)

end Go.Proofs.Ytljknhjmaafmkaa.Pure
