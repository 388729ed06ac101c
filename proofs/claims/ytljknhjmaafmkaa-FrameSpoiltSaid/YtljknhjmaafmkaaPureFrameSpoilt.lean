/- Written for the statement FrameSpoilt over the program's printed functions: numbers and lists alone. -/
import Derived.Test.YtljknhjmaafmkaaPFrameSpoiltx
set_option linter.unusedVariables false
set_option linter.unusedSimpArgs false
namespace Go.Proofs.Ytljknhjmaafmkaa.Pure
open Go.RowKit Go.Proofs.Ytljknhjmaafmkaa.PFrameSpoilt Go.Proofs.YtljknhjmaafmkaaW Go.Proofs.YtljknhjmaafmkaaW.PrintWords Go.Proofs.YtljknhjmaafmkaaW.PrintLast Go.Proofs.YtljknhjmaafmkaaW.PrintMore

theorem wrap64_id {x : Int} (h0 : -9223372036854775808 ≤ x) (h1 : x ≤ 9223372036854775807) : wrap64 x = x := by unfold wrap64; omega
theorem wu64 (n : Int) : IntKind.u64.wrap n = n % 18446744073709551616 := by simp [IntKind.wrap, IntKind.bits, IntKind.signed]
theorem wraps_u64 (n : Int) (h0 : 0 ≤ n) (h1 : n < 2 ^ 64) : IntKind.u64.wrap n = n := by rw [wu64]; omega
theorem u64_and127 {x : Int} (h0 : 0 ≤ x) (h1 : x < 18446744073709551616) : Go.bits .and .u64 x 127 = x % 128 := Go.bits_mask .u64 64 (by decide) wraps_u64 7 (by decide) x h0 h1
theorem u8_and127 {x : Int} (h0 : 0 ≤ x) (h1 : x < 256) : Go.bits .and .u8 x 127 = x % 128 := Go.bits_mask .u8 8 (by decide) Go.wraps_u8 7 (by decide) x h0 h1
theorem bits_comm_or (k : IntKind) (x y : Int) : Go.bits .or k x y = Go.bits .or k y x := by simp [Go.bits, BitVec.or_comm]
theorem u8_or_128 {x : Int} (h0 : 0 ≤ x) (h1 : x < 128) : Go.bits .or .u8 x 128 = x + 128 := by
  rw [bits_comm_or, Go.bits_join .u8 8 (by decide) Go.wraps_u8 7 128 x (by decide) (by decide) (by decide) h0 h1 (by omega)]; omega
theorem u64_join (i : Nat) {x y : Int} (hx0 : 0 ≤ x) (hx : x % 2 ^ i = 0) (hx1 : x < 18446744073709551616) (hy0 : 0 ≤ y) (hy : y < 2 ^ i) (hy1 : y < 18446744073709551616) : Go.bits .or .u64 x y = x + y :=
  Go.bits_join .u64 64 (by decide) wraps_u64 i x y hx0 hx hx1 hy0 hy hy1
theorem wf_u64 {x : Int} (h : (Lit.int .u64 x).wf = true) : 0 ≤ x ∧ x < 18446744073709551616 := by
  simp [Lit.wf, IntKind.min, IntKind.max, IntKind.bits, IntKind.signed] at h; omega
theorem wf_u8 {x : Int} (h : (Lit.int .u8 x).wf = true) : 0 ≤ x ∧ x < 256 := by
  simp [Lit.wf, IntKind.min, IntKind.max, IntKind.bits, IntKind.signed] at h; omega
theorem wf_i64 {x : Int} (h : (Lit.int .i64 x).wf = true) : -9223372036854775808 ≤ x ∧ x ≤ 9223372036854775807 := by
  simp [Lit.wf, IntKind.min, IntKind.max, IntKind.bits, IntKind.signed] at h; omega
def Byt (l : List Int) : Prop := ∀ x ∈ l, 0 ≤ x ∧ x < 256
theorem Byt.of_wf {l : List Int} (h : ∀ x ∈ l, (Lit.int .u8 x).wf = true) : Byt l := fun x hx => wf_u8 (h x hx)
theorem Byt.rd {l : List Int} (h : Byt l) (i : Int) : 0 ≤ rd l i ∧ rd l i < 256 := by
  unfold PrintWords.rd
  rw [List.getD_eq_getElem?_getD]
  cases e : l[i.toNat]? with
  | none => simp
  | some x => exact h x (List.mem_of_getElem? e)
theorem Byt.take {l : List Int} (h : Byt l) (n : Nat) : Byt (l.take n) := fun x hx => h x (List.mem_of_mem_take hx)
theorem Byt.drop {l : List Int} (h : Byt l) (n : Nat) : Byt (l.drop n) := fun x hx => h x (List.mem_of_mem_drop hx)
theorem rd_nat (l : List Int) (i : Nat) : rd l (i : Int) = l.getD i 0 := by unfold PrintWords.rd; simp
theorem rd_drop {l : List Int} {i : Nat} (h : i < l.length) : l.drop i = rd l (i : Int) :: l.drop (i + 1) := by
  rw [rd_nat, List.drop_eq_getElem_cons h]; simp [List.getD_eq_getElem?_getD, List.getElem?_eq_getElem h]

theorem bl_eq (s : ByteArray) : s.toList = s.data.toList := ByteArray.toList_eq s
theorem ba_ext {a b : ByteArray} (h : a.toList = b.toList) : a = b := by
  rw [bl_eq, bl_eq] at h
  exact ByteArray.ext (Array.toList_inj.mp h)
theorem bl_len (s : ByteArray) : s.toList.length = s.size := by rw [bl_eq, Array.length_toList]; rfl
theorem bl_append (a b : ByteArray) : (a ++ b).toList = a.toList ++ b.toList := by rw [bl_eq, bl_eq, bl_eq, ByteArray.data_append, Array.toList_append]
theorem bl_extract (a : ByteArray) (i j : Nat) : (a.extract i j).toList = (a.toList.take j).drop i := by
  rw [bl_eq, bl_eq, ByteArray.data_extract, Array.toList_extract, List.extract_eq_take_drop, List.drop_take]
theorem bl_nums (xs : List Int) : (strOfNums xs).toList = xs.map fun n => UInt8.ofNat n.toNat := by rw [bl_eq]; rfl
theorem bt_nat (s : ByteArray) (i : Nat) (h : i < s.size) : bt s (i : Int) = ((s.toList[i]'(by rw [bl_len]; exact h)).toNat : Int) := by
  unfold PrintWords.bt
  rw [dif_pos (by simpa using h)]
  simp only [Int.toNat_natCast, bl_eq]
  rfl
theorem bl_bytesOf (s : ByteArray) : bytesOf s = s.toList.map fun b => (b.toNat : Int) := by unfold PrintWords.bytesOf; rw [bl_eq]
theorem less_app (p x y : List UInt8) : Op.bytesLess (p ++ x) (p ++ y) = Op.bytesLess x y := by
  induction p with
  | nil => rfl
  | cons c t ih => simp [Op.bytesLess, ih, UInt8.lt_irrefl]
theorem less_next {c d : UInt8} (h : c.toNat < d.toNat) (x y : List UInt8) : Op.bytesLess (c :: x) (d :: y) = true := by
  simp only [Op.bytesLess]
  rw [decide_eq_true (UInt8.lt_iff_toNat_lt.mpr h)]
  rfl

theorem byt_back {xs : List Int} (h : Byt xs) : (xs.map fun n => ((UInt8.ofNat n.toNat).toNat : Int)) = xs := by
  induction xs with
  | nil => rfl
  | cons c t ih =>
    have hc := h c (List.mem_cons_self ..)
    rw [List.map_cons, ih (fun x hx => h x (List.mem_cons_of_mem _ hx)), UInt8.toNat_ofNat']
    congr 1
    omega
theorem bytesOf_nums {xs : List Int} (h : Byt xs) : bytesOf (strOfNums xs) = xs := by
  rw [bl_bytesOf, bl_nums, List.map_map]
  exact byt_back h
theorem nums_bytesOf (s : ByteArray) : strOfNums (bytesOf s) = s := by
  apply ba_ext
  rw [bl_nums, bl_bytesOf, List.map_map]
  conv => rhs; rw [← List.map_id s.toList]
  apply List.map_congr_left
  intro b _
  simp
theorem nums_size (xs : List Int) : (strOfNums xs).size = xs.length := by rw [← bl_len, bl_nums, List.length_map]
theorem strs_byt (s : ByteArray) : Byt (bytesOf s) := by
  intro x hx
  rw [bl_bytesOf] at hx
  obtain ⟨b, _, rfl⟩ := List.mem_map.mp hx
  have := b.toNat_lt
  omega

theorem u32of {n : Nat} (h : n < 2 ^ 32) : (BitVec.ofInt 32 (n : Int)).toNat = n := by
  rw [BitVec.toNat_ofInt, show ((n : Int) % ((2 ^ 32 : Nat) : Int)).toNat = n by omega]
theorem u32x {a b : Nat} (ha : a < 2 ^ 32) (hb : b < 2 ^ 32) : Go.bits .xor .u32 (a : Int) (b : Int) = ((a ^^^ b : Nat) : Int) := by
  have e : (BitVec.ofInt 32 (a : Int) ^^^ BitVec.ofInt 32 (b : Int)).toNat = a ^^^ b := by rw [BitVec.toNat_xor, u32of ha, u32of hb]
  show IntKind.u32.wrap ((BitVec.ofInt 32 (a : Int) ^^^ BitVec.ofInt 32 (b : Int)).toNat : Int) = _
  rw [e, show IntKind.u32.wrap ((a ^^^ b : Nat) : Int) = ((a ^^^ b : Nat) : Int) % 4294967296 by simp [IntKind.wrap, IntKind.bits, IntKind.signed]]
  have := Nat.xor_lt_two_pow ha hb
  omega
theorem wf_u32 {x : Int} (h : (Lit.int .u32 x).wf = true) : 0 ≤ x ∧ x < 4294967296 := by
  simp [Lit.wf, IntKind.min, IntKind.max, IntKind.bits, IntKind.signed] at h; omega
def fullN : Nat := 4294967295
theorem u32ok_of {n : Nat} (h : n < 2 ^ 32) : u32ok (n : Int) = true := by
  simp only [u32ok, Bool.and_eq_true, decide_eq_true_eq]
  omega
theorem bytesOk_of {l : List Int} (h : Byt l) : bytesOk l = true := List.all_eq_true.2 fun x hx => by
  have := h x hx
  simp only [Bool.and_eq_true, decide_eq_true_eq]
  omega
theorem feedN_lt : ∀ (l : List Int) (c : Nat), c < 2 ^ 32 → Byt l → feedN c l < 2 ^ 32
  | [], _, h, _ => h
  | x :: xs, c, h, hb => feedN_lt xs _ (inb_lt h (by have := hb x (List.mem_cons_self ..); omega)) (fun y hy => hb y (List.mem_cons_of_mem _ hy))
theorem feedN_app : ∀ (a b : List Int) (c : Nat), feedN c (a ++ b) = feedN (feedN c a) b
  | [], _, _ => rfl
  | x :: xs, b, c => feedN_app xs b _
theorem feed_some {l : List Int} (hb : Byt l) {c : Nat} (h : c < 2 ^ 32) : sum_feed.f (c : Int) l = some ((feedN c l : Nat) : Int) := by
  unfold sum_feed.f
  rw [if_pos (by rw [u32ok_of h, bytesOk_of hb]; rfl), Int.toNat_natCast]
def moreN (c : Nat) (l : List Int) : Nat := feedN (c ^^^ fullN) l ^^^ fullN
def ofN (l : List Int) : Nat := moreN 0 l
theorem full_lt : fullN < 2 ^ 32 := by decide
theorem moreN_lt {l : List Int} (hb : Byt l) {c : Nat} (h : c < 2 ^ 32) : moreN c l < 2 ^ 32 := Nat.xor_lt_two_pow (feedN_lt l _ (Nat.xor_lt_two_pow h full_lt) hb) full_lt
theorem xor_full {c : Nat} (h : c < 2 ^ 32) : Go.bits .xor .u32 4294967295 (c : Int) = ((c ^^^ fullN : Nat) : Int) := by
  rw [Nat.xor_comm]
  exact u32x full_lt h
theorem xor_full' {c : Nat} (h : c < 2 ^ 32) : Go.bits .xor .u32 (c : Int) 4294967295 = ((c ^^^ fullN : Nat) : Int) := u32x h full_lt
theorem of_some {l : List Int} (hb : Byt l) : sum_Of.f l = some ((ofN l : Nat) : Int) := by
  unfold sum_Of.f
  rw [show (4294967295 : Int) = ((fullN : Nat) : Int) from rfl, feed_some hb full_lt, Option.bind_some]
  refine congrArg some ?_
  refine (xor_full (feedN_lt l fullN full_lt hb)).trans ?_
  unfold ofN moreN
  rw [Nat.zero_xor]
theorem ofN_lt {l : List Int} (hb : Byt l) : ofN l < 2 ^ 32 := moreN_lt hb (by decide)
theorem u32_nat {x : Int} (h : 0 ≤ x ∧ x < 4294967296) : ∃ n : Nat, x = (n : Int) ∧ n < 2 ^ 32 := ⟨x.toNat, by omega, by omega⟩

def leN : Nat → Nat → List Int
  | 0, _ => []
  | s + 1, n => ((n % 256 : Nat) : Int) :: leN s (n / 256)
theorem leN_len : ∀ s n, (leN s n).length = s
  | 0, _ => rfl
  | s + 1, n => by rw [leN, List.length_cons, leN_len s]
theorem leN_byt : ∀ s n, Byt (leN s n)
  | 0, _ => fun x hx => by cases hx
  | s + 1, n => fun x hx => by
    rw [leN] at hx
    rcases List.mem_cons.1 hx with rfl | hx
    · omega
    · exact leN_byt s _ x hx
theorem frPut_rep : ∀ (s n : Nat) (x : List Int) (a m : Nat), x.length = a → s ≤ m → frPut s n a (x ++ List.replicate m 0) = x ++ leN s n ++ List.replicate (m - s) 0
  | 0, n, x, a, m, _, _ => by rw [frPut, leN, List.append_nil, Nat.sub_zero]
  | s + 1, n, x, a, m, ha, hm => by
    obtain ⟨m, rfl⟩ : ∃ q, m = q + 1 := ⟨m - 1, by omega⟩
    subst ha
    have e : (x ++ List.replicate (m + 1) (0 : Int)).set x.length ((n % 256 : Nat) : Int) = (x ++ [((n % 256 : Nat) : Int)]) ++ List.replicate m 0 := by
      rw [List.set_append_right _ _ (Nat.le_refl _), Nat.sub_self, List.replicate_succ, List.set_cons_zero, List.append_assoc]
      rfl
    rw [frPut, e, frPut_rep s _ _ _ m (by rw [List.length_append]; rfl) (by omega), leN, show m + 1 - (s + 1) = m - s by omega]
    simp only [List.append_assoc, List.singleton_append]
theorem splice_at {X p : List Int} {m i : Nat} (hX : X.length = i) : splice (X ++ List.replicate m 0) i p = X ++ p ++ List.replicate (m - p.length) 0 := by
  unfold splice
  rw [List.take_left' hX, ← List.drop_drop, List.drop_left' hX, List.drop_replicate, List.append_assoc]
def headN (n0 n1 n2 kd ln : Nat) : List Int := leN 1 76 ++ leN 1 kd ++ leN 2 ln ++ leN 4 n0 ++ leN 4 n1 ++ leN 4 n2
def bodyN (n0 n1 n2 kd : Nat) (p : List Int) : List Int := headN n0 n1 n2 kd p.length ++ p ++ List.replicate (108 - p.length) 0
def encN (n0 n1 n2 kd : Nat) (p : List Int) : List Int := bodyN n0 n1 n2 kd p ++ leN 4 (ofN (bodyN n0 n1 n2 kd p))
theorem headN_len (n0 n1 n2 kd ln : Nat) : (headN n0 n1 n2 kd ln).length = 16 := by
  unfold headN
  simp only [List.length_append, leN_len]
theorem bodyN_len (n0 n1 n2 kd : Nat) {p : List Int} (h : p.length ≤ 108) : (bodyN n0 n1 n2 kd p).length = 124 := by
  unfold bodyN
  simp only [List.length_append, headN_len, List.length_replicate]
  omega
theorem encN_len (n0 n1 n2 kd : Nat) {p : List Int} (h : p.length ≤ 108) : (encN n0 n1 n2 kd p).length = 128 := by
  unfold encN
  rw [List.length_append, bodyN_len _ _ _ _ h, leN_len]
theorem byt_app {a b : List Int} (ha : Byt a) (hb : Byt b) : Byt (a ++ b) := fun x hx => (List.mem_append.1 hx).elim (ha x) (hb x)
theorem byt_rep (m : Nat) : Byt (List.replicate m 0) := fun x hx => by
  have := (List.mem_replicate.1 hx).2
  omega
theorem bodyN_byt (n0 n1 n2 kd : Nat) {p : List Int} (h : Byt p) : Byt (bodyN n0 n1 n2 kd p) := by
  unfold bodyN headN
  exact byt_app (byt_app (byt_app (byt_app (byt_app (byt_app (byt_app (leN_byt _ _) (leN_byt _ _)) (leN_byt _ _)) (leN_byt _ _)) (leN_byt _ _)) (leN_byt _ _)) h) (byt_rep _)
theorem encN_byt (n0 n1 n2 kd : Nat) {p : List Int} (h : Byt p) : Byt (encN n0 n1 n2 kd p) := byt_app (bodyN_byt n0 n1 n2 kd h) (leN_byt _ _)
theorem frHead_eq (n0 n1 n2 kd : Nat) {p : List Int} (h : p.length ≤ 108) : frHead n0 n1 n2 kd p = bodyN n0 n1 n2 kd p ++ List.replicate 4 0 := by
  unfold frHead
  have r1 := frPut_rep 1 76 [] 0 128 rfl (by decide)
  rw [List.nil_append] at r1
  rw [r1, List.nil_append]
  rw [frPut_rep 1 kd (leN 1 76) 1 (128 - 1) (leN_len _ _) (by decide)]
  rw [frPut_rep 2 p.length (leN 1 76 ++ leN 1 kd) 2 (128 - 1 - 1) (by simp only [List.length_append, leN_len]) (by decide)]
  rw [frPut_rep 4 n0 (leN 1 76 ++ leN 1 kd ++ leN 2 p.length) 4 (128 - 1 - 1 - 2) (by simp only [List.length_append, leN_len]) (by decide)]
  rw [frPut_rep 4 n1 (leN 1 76 ++ leN 1 kd ++ leN 2 p.length ++ leN 4 n0) 8 (128 - 1 - 1 - 2 - 4) (by simp only [List.length_append, leN_len]) (by decide)]
  rw [frPut_rep 4 n2 (leN 1 76 ++ leN 1 kd ++ leN 2 p.length ++ leN 4 n0 ++ leN 4 n1) 12 (128 - 1 - 1 - 2 - 4 - 4) (by simp only [List.length_append, leN_len]) (by decide)]
  rw [splice_at (by simp only [List.length_append, leN_len])]
  unfold bodyN headN
  rw [List.append_assoc _ (List.replicate (108 - p.length) 0) (List.replicate 4 0), List.replicate_append_replicate]
  rw [show 128 - 1 - 1 - 2 - 4 - 4 - 4 - p.length = 108 - p.length + 4 by omega]
def okN (n0 n1 n2 kd : Nat) (p : List Int) : Prop := n0 < 2147483648 ∧ n1 < 2147483648 ∧ n2 < 2147483648 ∧ 1 ≤ kd ∧ kd ≤ 4 ∧ p.length ≤ 108
theorem fits_some (x : Int) : frame_fits.f x = some (decide (0 ≤ x ∧ x ≤ 2147483647)) := by
  unfold frame_fits.f
  by_cases c : x ≥ 0
  · rw [if_pos c]; exact congrArg some (decide_eq_decide.2 (by omega))
  · rw [if_neg c]; exact congrArg some (decide_eq_false (by omega)).symm
theorem check_some (x y z : Int) : frame_Check.f x y z = some (if 0 ≤ x ∧ x ≤ 2147483647 ∧ 0 ≤ y ∧ y ≤ 2147483647 ∧ 0 ≤ z ∧ z ≤ 2147483647 then 0 else 1) := by
  unfold frame_Check.f
  simp only [fits_some, Option.bind_some, decide_eq_true_eq]
  by_cases c1 : 0 ≤ x ∧ x ≤ 2147483647
  · rw [if_pos c1]
    by_cases c2 : 0 ≤ y ∧ y ≤ 2147483647
    · rw [if_pos c2]
      by_cases c3 : 0 ≤ z ∧ z ≤ 2147483647
      · rw [if_pos c3, if_pos (by omega)]
      · rw [if_neg c3, if_neg (by omega)]
    · rw [if_neg c2, if_neg (by omega)]
  · rw [if_neg c1, if_neg (by omega)]
theorem known_some (x : Int) : frame_known.f x = some (decide (1 ≤ x ∧ x ≤ 4)) := by
  unfold frame_known.f
  by_cases c : x ≥ 1
  · rw [if_pos c]; exact congrArg some (decide_eq_decide.2 (by omega))
  · rw [if_neg c]; exact congrArg some (decide_eq_false (by omega)).symm
theorem enc_some {n0 n1 n2 kd : Nat} {p : List Int} (ho : okN n0 n1 n2 kd p) (hb : Byt p) : frame_Encode.f (n0 : Int) (n1 : Int) (n2 : Int) (kd : Int) p = some (encN n0 n1 n2 kd p, 0) := by
  obtain ⟨h0, h1, h2, h3, h4, h5⟩ := ho
  have hB := bodyN_byt n0 n1 n2 kd hb
  have hL := bodyN_len n0 n1 n2 kd h5
  unfold frame_Encode.f encN
  rw [check_some, if_pos (by omega), Option.bind_some, if_pos rfl, known_some, Option.bind_some, if_pos (by simp; omega), if_neg (by omega)]
  simp only [Int.toNat_natCast]
  rw [frHead_eq n0 n1 n2 kd h5]
  generalize bodyN n0 n1 n2 kd p = b at hB hL
  rw [List.take_left' hL, of_some hB, Option.bind_some, if_pos (u32ok_of (ofN_lt hB)), Int.toNat_natCast, frPut_rep 4 _ b 124 4 hL (by decide)]
  rw [Nat.sub_self, List.replicate_zero, List.append_nil]
theorem enc_bad1 {x y z k : Int} {p : List Int} (h : ¬ (0 ≤ x ∧ x ≤ 2147483647 ∧ 0 ≤ y ∧ y ≤ 2147483647 ∧ 0 ≤ z ∧ z ≤ 2147483647 ∧ 1 ≤ k ∧ k ≤ 4)) : frame_Encode.f x y z k p = some ([], 1) := by
  unfold frame_Encode.f
  rw [check_some, Option.bind_some]
  by_cases c : 0 ≤ x ∧ x ≤ 2147483647 ∧ 0 ≤ y ∧ y ≤ 2147483647 ∧ 0 ≤ z ∧ z ≤ 2147483647
  · rw [if_pos c, if_pos rfl, known_some, Option.bind_some, if_neg (by simp; omega)]
  · rw [if_neg c, if_neg (by decide)]
theorem enc_bad2 {x y z k : Int} {p : List Int} (h : 0 ≤ x ∧ x ≤ 2147483647 ∧ 0 ≤ y ∧ y ≤ 2147483647 ∧ 0 ≤ z ∧ z ≤ 2147483647 ∧ 1 ≤ k ∧ k ≤ 4) (hl : 108 < p.length) : frame_Encode.f x y z k p = some ([], 2) := by
  unfold frame_Encode.f
  rw [check_some, Option.bind_some, if_pos (show 0 ≤ x ∧ x ≤ 2147483647 ∧ 0 ≤ y ∧ y ≤ 2147483647 ∧ 0 ≤ z ∧ z ≤ 2147483647 by omega), if_pos rfl, known_some, Option.bind_some, if_pos (by simp; omega), if_pos hl]
theorem fcut_some (l : List Int) (hb : Byt l) : ∃ t, lienlaw04_cut.f l = some t ∧ t.length ≤ 300 ∧ Byt t := by
  unfold lienlaw04_cut.f
  by_cases c : (l.length : Int) > 300
  · rw [if_pos c, if_pos (by omega)]
    exact ⟨_, rfl, by rw [List.length_take]; omega, hb.take _⟩
  · rw [if_neg c]
    exact ⟨_, rfl, by omega, hb⟩
theorem awake04 : Ev (fun _ => lienlaw04_awake.f) true := Ev.now true

def seg (a b : Nat) (l : List Int) : List Int := (l.take b).drop a
theorem seg_len {a b : Nat} {l : List Int} (h : b ≤ l.length) : (seg a b l).length = b - a := by
  unfold seg; rw [List.length_drop, List.length_take]; omega
theorem seg_byt {a b : Nat} {l : List Int} (h : Byt l) : Byt (seg a b l) := (h.take b).drop a
theorem seg_join {a b c : Nat} (l : List Int) (h1 : a ≤ b) (h2 : b ≤ c) : seg a b l ++ seg b c l = seg a c l := by
  unfold seg
  have e : (l.take c).drop b = ((l.take c).drop a).drop (b - a) := by rw [List.drop_drop, show a + (b - a) = b by omega]
  have e2 : (l.take b).drop a = ((l.take c).drop a).take (b - a) := by
    rw [List.take_drop, List.take_take, show min (a + (b - a)) c = b by omega]
  rw [e, e2, List.take_append_drop]
theorem seg_all (l : List Int) : seg 0 l.length l = l := by unfold seg; rw [List.take_length, List.drop_zero]
theorem seg_one {a : Nat} {l : List Int} (h : a < l.length) : seg a (a + 1) l = [rd l (a : Int)] := by
  unfold seg
  rw [List.take_succ_eq_append_getElem h, List.drop_append_of_le_length (by rw [List.length_take]; omega), List.drop_eq_nil_of_le (by rw [List.length_take]; omega), List.nil_append, rd_nat]
  simp [List.getD_eq_getElem?_getD, List.getElem?_eq_getElem h]
theorem seg_le {l : List Int} (hb : Byt l) : ∀ (s a : Nat), a + s ≤ l.length → leN s (frNum s a l) = seg a (a + s) l
  | 0, a, h => by unfold seg; rw [leN, Nat.add_zero, List.drop_eq_nil_of_le (by rw [List.length_take]; omega)]
  | s + 1, a, h => by
    have hr := hb.rd (a : Int)
    have ih := seg_le hb s (a + 1) (by omega)
    rw [frNum, leN, show ((rd l (a : Int)).toNat + 256 * frNum s (a + 1) l) / 256 = frNum s (a + 1) l by omega, ih,
      ← seg_join l (show a ≤ a + 1 by omega) (show a + 1 ≤ a + (s + 1) by omega), seg_one (by omega), show a + 1 + s = a + (s + 1) by omega,
      show (((rd l (a : Int)).toNat + 256 * frNum s (a + 1) l) % 256 : Nat) = (rd l (a : Int)).toNat by omega, show (((rd l (a : Int)).toNat : Nat) : Int) = rd l (a : Int) by omega]
    rfl
theorem leN_inj {s : Nat} : ∀ {m n : Nat}, m < 256 ^ s → n < 256 ^ s → leN s m = leN s n → m = n := by
  induction s with
  | zero => intro m n h1 h2 _; simp at h1 h2; omega
  | succ s ih =>
    intro m n h1 h2 h
    rw [leN, leN] at h
    injection h with e1 e2
    rw [Nat.pow_succ] at h1 h2
    have := ih (m := m / 256) (n := n / 256) (by omega) (by omega) e2
    omega
theorem frNum_lt' {l : List Int} (hb : Byt l) (s a : Nat) : frNum s a l < 256 ^ s := frNum_lt (fun i => by have := hb.rd i; omega) s a
def longN (l : List Int) : Nat := frNum 2 2 l
def payN (l : List Int) : List Int := seg 16 (16 + longN l) l
def backN (l : List Int) : List Int := encN (frNum 4 4 l) (frNum 4 8 l) (frNum 4 12 l) (frNum 1 1 l) (payN l)
theorem payN_len {l : List Int} (h : l.length = 128) (hl : longN l ≤ 108) : (payN l).length = longN l := by unfold payN; rw [seg_len (by omega)]; omega
theorem body_back {l : List Int} (hb : Byt l) (h : l.length = 128) (hl : longN l ≤ 108) : bodyN (frNum 4 4 l) (frNum 4 8 l) (frNum 4 12 l) (frNum 1 1 l) (payN l) = [76] ++ seg 1 (16 + longN l) l ++ List.replicate (108 - longN l) 0 := by
  unfold bodyN headN
  rw [payN_len h hl]
  have e1 := seg_le hb 1 1 (by omega)
  have e2 := seg_le hb 2 2 (by omega)
  have e3 := seg_le hb 4 4 (by omega)
  have e4 := seg_le hb 4 8 (by omega)
  have e5 := seg_le hb 4 12 (by omega)
  rw [e1, show leN 2 (longN l) = seg 2 (2 + 2) l from e2, e3, e4, e5]
  unfold payN
  have j1 := seg_join l (show 1 ≤ 1 + 1 by omega) (show 1 + 1 ≤ 2 + 2 by omega)
  have j2 := seg_join l (show 1 ≤ 2 + 2 by omega) (show 2 + 2 ≤ 4 + 4 by omega)
  have j3 := seg_join l (show 1 ≤ 4 + 4 by omega) (show 4 + 4 ≤ 8 + 4 by omega)
  have j4 := seg_join l (show 1 ≤ 8 + 4 by omega) (show 8 + 4 ≤ 12 + 4 by omega)
  have j5 := seg_join l (show 1 ≤ 12 + 4 by omega) (show 12 + 4 ≤ 16 + longN l by omega)
  rw [← j5, ← j4, ← j3, ← j2, ← j1]
  simp only [List.append_assoc]
  rfl
theorem zeros_rep {z : List Int} : z.all (fun x => x == 0) = true ↔ z = List.replicate z.length 0 := by
  rw [List.all_eq_true, List.eq_replicate_iff]
  constructor
  · intro h
    exact ⟨rfl, fun x hx => by simpa using h x hx⟩
  · intro h x hx
    simpa using h.2 x hx
/-- When the bytes are just those that their parts make. -/
theorem back_iff {l : List Int} (hb : Byt l) (h : l.length = 128) (hl : longN l ≤ 108) : backN l = l ↔ (rd l 0 = 76 ∧ (seg (16 + longN l) 124 l).all (fun x => x == 0) = true ∧ frNum 4 124 l = ofN (l.take 124)) := by
  have hbody := body_back hb h hl
  have hbl := bodyN_len (frNum 4 4 l) (frNum 4 8 l) (frNum 4 12 l) (frNum 1 1 l) (p := payN l) (by rw [payN_len h hl]; exact hl)
  have hbb := bodyN_byt (frNum 4 4 l) (frNum 4 8 l) (frNum 4 12 l) (frNum 1 1 l) (p := payN l) (seg_byt hb)
  have hsp : l = l.take 124 ++ seg 124 128 l := by
    have := seg_join l (show 0 ≤ 124 by omega) (show 124 ≤ 128 by omega)
    have e := seg_all l
    rw [h] at e
    rw [e] at this
    rw [← this]
    conv => rhs; rw [this]
    unfold seg
    rw [List.drop_zero]
  have hs2 : l.take 124 = [rd l 0] ++ seg 1 (16 + longN l) l ++ seg (16 + longN l) 124 l := by
    have j1 := seg_join l (show 0 ≤ 0 + 1 by omega) (show 0 + 1 ≤ 16 + longN l by omega)
    have j2 := seg_join l (show 0 ≤ 16 + longN l by omega) (show 16 + longN l ≤ 124 by omega)
    rw [seg_one (a := 0) (by omega)] at j1
    have e : seg 0 124 l = l.take 124 := by unfold seg; rw [List.drop_zero]
    rw [← e, ← j2, ← j1]
    rfl
  have hn4 : leN 4 (frNum 4 124 l) = seg 124 128 l := seg_le hb 4 124 (by omega)
  have key1 : bodyN (frNum 4 4 l) (frNum 4 8 l) (frNum 4 12 l) (frNum 1 1 l) (payN l) = l.take 124 ↔ (rd l 0 = 76 ∧ (seg (16 + longN l) 124 l).all (fun x => x == 0) = true) := by
    rw [hbody, hs2, zeros_rep, seg_len (show 124 ≤ l.length by omega), show 124 - (16 + longN l) = 108 - longN l by omega]
    constructor
    · intro e
      obtain ⟨e1, e2⟩ := List.append_inj e (by simp only [List.length_append, List.length_singleton])
      obtain ⟨e3, _⟩ := List.append_inj e1 rfl
      injection e3 with e4
      exact ⟨e4.symm, e2.symm⟩
    · rintro ⟨e1, e2⟩
      rw [e1, ← e2]
  unfold backN encN
  generalize bodyN (frNum 4 4 l) (frNum 4 8 l) (frNum 4 12 l) (frNum 1 1 l) (payN l) = b at hbl hbb key1
  constructor
  · intro e
    have e' : b ++ leN 4 (ofN b) = l.take 124 ++ seg 124 128 l := e.trans hsp
    obtain ⟨e1, e2⟩ := List.append_inj e' (by rw [hbl, List.length_take]; omega)
    have k := key1.1 e1
    refine ⟨k.1, k.2, ?_⟩
    rw [← hn4] at e2
    rw [← e1]
    exact (leN_inj (s := 4) (by have := ofN_lt hbb; omega) (frNum_lt' hb 4 124) e2).symm
  · rintro ⟨e1, e2, e3⟩
    have k := key1.2 ⟨e1, e2⟩
    rw [k, ← e3, hn4]
    exact hsp.symm

def goodN (l : List Int) : Prop := longN l ≤ 108 ∧ frNum 4 4 l < 2147483648 ∧ frNum 4 8 l < 2147483648 ∧ frNum 4 12 l < 2147483648 ∧ 1 ≤ frNum 1 1 l ∧ frNum 1 1 l ≤ 4 ∧ backN l = l
def valN (l : List Int) : Int × Int × Int × Int × List Int × Int := ((frNum 4 4 l : Nat), (frNum 4 8 l : Nat), (frNum 4 12 l : Nat), (frNum 1 1 l : Nat), payN l, 0)
def badN : Int × Int × Int × Int × List Int × Int := (0, 0, 0, 0, [], 40)
theorem dec_good {l : List Int} (hb : Byt l) (h : l.length = 128) (hg : goodN l) : frame_Decode.f l = some (valN l) := by
  obtain ⟨g1, g2, g3, g4, g5, g6, g7⟩ := hg
  obtain ⟨k1, k2, k3⟩ := (back_iff hb h g1).1 g7
  have k2' : ((l.take 124).drop (16 + frNum 2 2 l)).all (fun x => x == 0) = true := k2
  unfold frame_Decode.f frDec1 frDec2
  rw [if_pos h, if_pos k1, if_pos (bytesOk_of hb), known_some, Option.bind_some, if_pos (by simp; omega), if_neg (show ¬ 108 < frNum 2 2 l from by unfold longN at g1; omega), if_neg (by omega), if_neg (by omega), if_neg (by omega), if_pos k2', of_some (hb.take 124), Option.bind_some, if_pos (by omega)]
  rfl
theorem dec_bad {l : List Int} (hb : Byt l) (hg : ¬ (l.length = 128 ∧ goodN l)) : frame_Decode.f l = some badN := by
  unfold frame_Decode.f frDec1 frDec2 frBad
  by_cases c0 : l.length = 128
  · rw [if_pos c0]
    by_cases c1 : rd l 0 = 76
    · rw [if_pos c1, if_pos (bytesOk_of hb), known_some, Option.bind_some]
      by_cases c2 : 1 ≤ frNum 1 1 l ∧ frNum 1 1 l ≤ 4
      · rw [if_pos (by simp; omega)]
        by_cases c3 : 108 < frNum 2 2 l
        · rw [if_pos c3]; rfl
        rw [if_neg c3]
        by_cases c4 : 2147483647 < frNum 4 4 l
        · rw [if_pos c4]; rfl
        rw [if_neg c4]
        by_cases c5 : 2147483647 < frNum 4 8 l
        · rw [if_pos c5]; rfl
        rw [if_neg c5]
        by_cases c6 : 2147483647 < frNum 4 12 l
        · rw [if_pos c6]; rfl
        rw [if_neg c6]
        by_cases c7 : ((l.take 124).drop (16 + frNum 2 2 l)).all (fun x => x == 0) = true
        · rw [if_pos c7, of_some (hb.take 124), Option.bind_some]
          by_cases c8 : ((frNum 4 124 l : Nat) : Int) = ((ofN (l.take 124) : Nat) : Int)
          · exact absurd ⟨c0, by unfold longN; omega, by omega, by omega, by omega, c2.1, c2.2, (back_iff hb c0 (by unfold longN; omega)).2 ⟨c1, c7, by omega⟩⟩ hg
          · rw [if_neg c8]; rfl
        · rw [if_neg c7]; rfl
      · rw [if_neg (by simp; omega)]; rfl
    · rw [if_neg c1]; rfl
  · rw [if_neg c0]; rfl

theorem frNum_at : ∀ (s n : Nat) (x z : List Int) (a : Nat), x.length = a → frNum s a (x ++ leN s n ++ z) = n % 256 ^ s
  | 0, n, x, z, a, _ => by rw [frNum, Nat.pow_zero, Nat.mod_one]
  | s + 1, n, x, z, a, h => by
    have e : x ++ leN (s + 1) n ++ z = (x ++ [((n % 256 : Nat) : Int)]) ++ leN s (n / 256) ++ z := by
      rw [leN]; simp only [List.append_assoc, List.singleton_append, List.cons_append, List.nil_append]
    have hr : rd (x ++ leN (s + 1) n ++ z) (a : Int) = ((n % 256 : Nat) : Int) := by
      rw [rd_nat, leN, List.append_assoc, List.getD_eq_getElem?_getD, List.getElem?_append_right (by omega), h, Nat.sub_self]
      rfl
    rw [frNum, hr, e, frNum_at s (n / 256) (x ++ [((n % 256 : Nat) : Int)]) z (a + 1) (by rw [List.length_append, List.length_singleton, h]), Nat.pow_succ, Nat.mul_comm (256 ^ s) 256, Nat.mod_mul]
    omega
theorem good_enc {n0 n1 n2 kd : Nat} {p : List Int} (ho : okN n0 n1 n2 kd p) : goodN (encN n0 n1 n2 kd p) ∧ valN (encN n0 n1 n2 kd p) = ((n0 : Int), (n1 : Int), (n2 : Int), (kd : Int), p, 0) := by
  obtain ⟨h0, h1, h2, h3, h4, h5⟩ := ho
  obtain ⟨Z, hZ⟩ : ∃ Z, Z = List.replicate (108 - p.length) (0 : Int) ++ leN 4 (ofN (bodyN n0 n1 n2 kd p)) := ⟨_, rfl⟩
  have hl : encN n0 n1 n2 kd p = leN 1 76 ++ (leN 1 kd ++ (leN 2 p.length ++ (leN 4 n0 ++ (leN 4 n1 ++ (leN 4 n2 ++ (p ++ Z)))))) := by
    rw [hZ]
    unfold encN
    conv => lhs; lhs; unfold bodyN headN
    simp only [List.append_assoc]
  obtain ⟨l, hll⟩ : ∃ l, encN n0 n1 n2 kd p = l := ⟨_, rfl⟩
  have f1 : frNum 1 1 l = kd := by
    rw [← hll, hl, ← List.append_assoc, frNum_at 1 kd (leN 1 76) _ 1 (leN_len _ _)]; omega
  have f2 : longN l = p.length := by
    unfold longN
    rw [← hll, hl, ← List.append_assoc, ← List.append_assoc, frNum_at 2 p.length (leN 1 76 ++ leN 1 kd) _ 2 (by simp only [List.length_append, leN_len])]; omega
  have f3 : frNum 4 4 l = n0 := by
    rw [← hll, hl, ← List.append_assoc, ← List.append_assoc, ← List.append_assoc, frNum_at 4 n0 (leN 1 76 ++ leN 1 kd ++ leN 2 p.length) _ 4 (by simp only [List.length_append, leN_len])]; omega
  have f4 : frNum 4 8 l = n1 := by
    rw [← hll, hl, ← List.append_assoc, ← List.append_assoc, ← List.append_assoc, ← List.append_assoc, frNum_at 4 n1 (leN 1 76 ++ leN 1 kd ++ leN 2 p.length ++ leN 4 n0) _ 8 (by simp only [List.length_append, leN_len])]; omega
  have f5 : frNum 4 12 l = n2 := by
    rw [← hll, hl, ← List.append_assoc, ← List.append_assoc, ← List.append_assoc, ← List.append_assoc, ← List.append_assoc, frNum_at 4 n2 (leN 1 76 ++ leN 1 kd ++ leN 2 p.length ++ leN 4 n0 ++ leN 4 n1) _ 12 (by simp only [List.length_append, leN_len])]; omega
  have f6 : payN l = p := by
    unfold payN seg
    rw [f2, ← hll, hl]
    have e : leN 1 76 ++ (leN 1 kd ++ (leN 2 p.length ++ (leN 4 n0 ++ (leN 4 n1 ++ (leN 4 n2 ++ (p ++ Z)))))) = ((leN 1 76 ++ leN 1 kd ++ leN 2 p.length ++ leN 4 n0 ++ leN 4 n1 ++ leN 4 n2) ++ p) ++ Z := by simp only [List.append_assoc]
    rw [e, List.take_left' (by simp only [List.length_append, leN_len]), List.drop_left' (by simp only [List.length_append, leN_len])]
  rw [hll]
  refine ⟨⟨by omega, by omega, by omega, by omega, by omega, by omega, ?_⟩, ?_⟩
  · unfold backN
    rw [f1, f3, f4, f5, f6, hll]
  · unfold valN
    rw [f1, f3, f4, f5, f6]

theorem u8_xor {a b : Nat} (ha : a < 256) (hb : b < 256) : Go.bits .xor .u8 (a : Int) (b : Int) = ((a ^^^ b : Nat) : Int) := by
  have hlt : a ^^^ b < 2 ^ 8 := Nat.xor_lt_two_pow ha hb
  have e : (BitVec.ofInt 8 (a : Int) ^^^ BitVec.ofInt 8 (b : Int)).toNat = a ^^^ b := by
    rw [BitVec.toNat_xor, BitVec.toNat_ofInt, BitVec.toNat_ofInt]
    rw [show ((a : Int) % ((2 ^ 8 : Nat) : Int)).toNat = a by omega, show ((b : Int) % ((2 ^ 8 : Nat) : Int)).toNat = b by omega]
  show IntKind.u8.wrap ((BitVec.ofInt 8 (a : Int) ^^^ BitVec.ofInt 8 (b : Int)).toNat : Int) = _
  rw [e, Go.wraps_u8 _ (by omega) (by omega)]

theorem shl_bit (q : Int) (h0 : 0 ≤ q) (h1 : q < 8) : shl .u8 1 q = ((2 ^ q.toNat : Nat) : Int) := by
  obtain ⟨j, rfl⟩ : ∃ j : Nat, q = (j : Int) := ⟨q.toNat, by omega⟩
  have h8 : j = 0 ∨ j = 1 ∨ j = 2 ∨ j = 3 ∨ j = 4 ∨ j = 5 ∨ j = 6 ∨ j = 7 := by omega
  rcases h8 with rfl | rfl | rfl | rfl | rfl | rfl | rfl | rfl <;> decide
theorem pow_byte {j : Nat} (h : j < 8) : 2 ^ j < 256 := Nat.pow_lt_pow_right (show 1 < 2 by decide) (show j < 8 from h)

theorem feedN_lin : ∀ (l : List Int) (a c : Nat), feedN (a ^^^ c) l = stn (8 * l.length) a ^^^ feedN c l
  | [], _, _ => rfl
  | x :: xs, a, c => by
    have e : inb (a ^^^ c) x.toNat = stn 8 a ^^^ inb c x.toNat := by unfold inb; rw [Nat.xor_assoc, stn_lin]
    show feedN (inb (a ^^^ c) x.toNat) xs = stn (8 * (xs.length + 1)) a ^^^ feedN (inb c x.toNat) xs
    rw [e, feedN_lin xs, show 8 * (xs.length + 1) = 8 + 8 * xs.length by omega, stn_add]

theorem feed_flip : ∀ (l : List Int) (i c m : Nat) (h : i < l.length), Byt l → feedN c (l.set i (((l[i]).toNat ^^^ m : Nat) : Int)) = stn (8 * (l.length - i)) m ^^^ feedN c l
  | x :: xs, 0, c, m, _, hb => by
    show feedN (inb c (((x.toNat ^^^ m : Nat) : Int)).toNat) xs = stn (8 * (xs.length + 1)) m ^^^ feedN (inb c x.toNat) xs
    have e : inb c ((((x.toNat ^^^ m : Nat) : Int)).toNat) = stn 8 m ^^^ inb c x.toNat := by
      rw [Int.toNat_natCast]
      unfold inb
      rw [← stn_lin]
      refine congrArg (stn 8) ?_
      rw [← Nat.xor_assoc, Nat.xor_comm (c ^^^ x.toNat)]
    rw [e, feedN_lin, ← stn_add, show 8 + 8 * xs.length = 8 * (xs.length + 1) by omega]
  | x :: xs, i + 1, c, m, h, hb => by
    have h' : i < xs.length := by simpa using h
    have q := feed_flip xs i (inb c x.toNat) m h' (fun y hy => hb y (List.mem_cons_of_mem _ hy))
    show feedN (inb c x.toNat) (xs.set i (((xs[i]).toNat ^^^ m : Nat) : Int)) = stn (8 * (xs.length + 1 - (i + 1))) m ^^^ feedN (inb c x.toNat) xs
    rw [q, show xs.length + 1 - (i + 1) = xs.length - i by omega]
theorem set_byt {l : List Int} (h : Byt l) (i : Nat) {v : Int} (hv : 0 ≤ v ∧ v < 256) : Byt (l.set i v) := fun x hx => by
  rcases List.mem_or_eq_of_mem_set hx with h1 | h1
  · exact h x h1
  · rw [h1]; exact hv
theorem flip_val {l : List Int} (hb : Byt l) {i : Nat} (h : i < l.length) {j : Nat} (hj : j < 8) : Go.bits .xor .u8 (rd l (i : Int)) (shl .u8 1 (j : Int)) = (((l[i]).toNat ^^^ 2 ^ j : Nat) : Int) ∧ (l[i]).toNat ^^^ 2 ^ j < 256 := by
  have hm := hb l[i] (List.getElem_mem h)
  have e : rd l (i : Int) = (((l[i]).toNat : Nat) : Int) := by
    rw [rd_nat, List.getD_eq_getElem?_getD, List.getElem?_eq_getElem h, Option.getD_some]
    omega
  rw [e, shl_bit (j : Int) (by omega) (by omega), Int.toNat_natCast, u8_xor (by omega) (pow_byte hj)]
  exact ⟨rfl, Nat.xor_lt_two_pow (n := 8) (by omega) (pow_byte hj)⟩
theorem ofN_flip {l : List Int} (hb : Byt l) {i : Nat} (h : i < l.length) (m : Nat) : ofN (l.set i (((l[i]).toNat ^^^ m : Nat) : Int)) = ofN l ^^^ stn (8 * (l.length - i)) m := by
  unfold ofN moreN
  rw [feed_flip l i _ m h hb, Nat.xor_comm (stn _ m), Nat.xor_assoc, Nat.xor_comm (stn _ m), ← Nat.xor_assoc]

def le4 (c : Nat) : List Int := [((c % 256 : Nat) : Int), ((c / 256 % 256 : Nat) : Int), ((c / 65536 % 256 : Nat) : Int), ((c / 16777216 % 256 : Nat) : Int)]
def sealN (l : List Int) : List Int := l ++ le4 (ofN l)
theorem shr_at (c : Nat) (i : Nat) (hi : i ≤ 32) : shr .u32 (c : Int) (i : Int) = ((c / 2 ^ i : Nat) : Int) := by
  unfold shr
  rw [Int.toNat_natCast, show min i IntKind.u32.bits = i by have : IntKind.u32.bits = 32 := rfl; omega]
  simp
theorem le4_len (c : Nat) : (le4 c).length = 4 := rfl
theorem le4_byt (c : Nat) : Byt (le4 c) := fun x hx => by
  simp only [le4, List.mem_cons, List.not_mem_nil, or_false] at hx
  rcases hx with rfl | rfl | rfl | rfl <;> omega
theorem sealN_len (l : List Int) : (sealN l).length = l.length + 4 := by unfold sealN; rw [List.length_append, le4_len]
theorem sealN_byt {l : List Int} (hb : Byt l) : Byt (sealN l) := fun x hx => (List.mem_append.1 hx).elim (hb x) (le4_byt _ x)
theorem rd_at (l : List Int) (i : Nat) : rd l (i : Int) = l.getD i 0 := rd_nat l i
theorem split4 (l : List Int) (n : Nat) (h : l.length = n + 4) : l = l.take n ++ [rd l ((n + 0 : Nat) : Int), rd l ((n + 1 : Nat) : Int), rd l ((n + 2 : Nat) : Int), rd l ((n + 3 : Nat) : Int)] := by
  have e : l.drop n = [rd l ((n + 0 : Nat) : Int), rd l ((n + 1 : Nat) : Int), rd l ((n + 2 : Nat) : Int), rd l ((n + 3 : Nat) : Int)] := by
    rw [rd_drop (by omega), rd_drop (show n + 1 < l.length by omega), rd_drop (show n + 1 + 1 < l.length by omega), rd_drop (show n + 1 + 1 + 1 < l.length by omega), List.drop_eq_nil_of_le (by omega)]
    rfl
  rw [← e, List.take_append_drop]
/-- What Open says: the bytes, where the sum behind them is theirs. -/

theorem xor_zero_eq {a b : Nat} (h : a ^^^ b = 0) : a = b := by
  have q := congrArg (fun z => z ^^^ b) h
  simpa [Nat.xor_assoc, Nat.xor_self] using q
theorem stn_inj (n : Nat) {a b : Nat} (ha : a < 2 ^ 32) (hb : b < 2 ^ 32) (h : stn n a = stn n b) : a = b := by
  refine xor_zero_eq (stn_inj0 n (Nat.xor_lt_two_pow ha hb) ?_)
  rw [stn_lin, h, Nat.xor_self]
theorem inb_pow (n r b : Nat) : inb (stn n r) b = stn (n + 8) (r ^^^ 2 ^ n * b) := by
  unfold inb
  rw [stn_add, stn_lin n, stn_pow]
theorem word_split (c : Nat) (h : c < 2 ^ 32) : c % 256 ^^^ 2 ^ 8 * (c / 256 % 256) ^^^ 2 ^ 16 * (c / 65536 % 256) ^^^ 2 ^ 24 * (c / 16777216 % 256) = c := by
  have s1 := split_xor 8 c
  have s2 := split_xor 8 (c / 256)
  have s3 := split_xor 8 (c / 65536)
  have d2 : c / 256 / 2 ^ 8 = c / 65536 := by omega
  have d3 : c / 65536 / 2 ^ 8 = c / 16777216 := by omega
  have d4 : c / 16777216 % 256 = c / 16777216 := by omega
  have x8 : ∀ a b : Nat, 2 ^ 8 * (a ^^^ b) = 2 ^ 8 * a ^^^ 2 ^ 8 * b := fun a b => by
    refine Nat.eq_of_testBit_eq fun i => ?_
    rw [Nat.testBit_xor, Nat.testBit_two_pow_mul, Nat.testBit_two_pow_mul, Nat.testBit_two_pow_mul, Nat.testBit_xor]
    by_cases hi : 8 ≤ i <;> simp [hi]
  rw [d2] at s2
  rw [d3] at s3
  have e3 : 2 ^ 8 * (c / 65536) = 2 ^ 16 * (c / 16777216) ^^^ 2 ^ 8 * (c / 65536 % 256) := by
    conv => lhs; rw [s3]
    rw [x8, ← Nat.mul_assoc]
    first | done | rfl
  have e2 : 2 ^ 8 * (c / 256) = 2 ^ 24 * (c / 16777216) ^^^ 2 ^ 16 * (c / 65536 % 256) ^^^ 2 ^ 8 * (c / 256 % 256) := by
    conv => lhs; rw [s2]
    rw [x8, e3, x8, ← Nat.mul_assoc, ← Nat.mul_assoc]
    first | done | rfl
  rw [d4]
  conv => rhs; rw [s1]
  rw [show c / 2 ^ 8 = c / 256 from rfl, e2, show c % 2 ^ 8 = c % 256 from rfl]
  generalize 2 ^ 24 * (c / 16777216) = p
  generalize 2 ^ 16 * (c / 65536 % 256) = q
  generalize 2 ^ 8 * (c / 256 % 256) = r
  generalize c % 256 = s
  refine Nat.eq_of_testBit_eq fun j => ?_
  simp only [Nat.testBit_xor]
  cases p.testBit j <;> cases q.testBit j <;> cases r.testBit j <;> cases s.testBit j <;> rfl
theorem feed_le4 (r c : Nat) (h : c < 2 ^ 32) : feedN r (le4 c) = stn 32 (r ^^^ c) := by
  show inb (inb (inb (inb r (((c % 256 : Nat) : Int)).toNat) (((c / 256 % 256 : Nat) : Int)).toNat) (((c / 65536 % 256 : Nat) : Int)).toNat) (((c / 16777216 % 256 : Nat) : Int)).toNat = _
  simp only [Int.toNat_natCast]
  rw [show inb r (c % 256) = stn 8 (r ^^^ c % 256) from rfl, inb_pow, inb_pow, inb_pow]
  refine congrArg (stn 32) ?_
  have w := word_split c h
  rw [Nat.xor_assoc r, Nat.xor_assoc r, Nat.xor_assoc r, w]
theorem ok_iff {l : List Int} (hb : Byt l) {n : Nat} (hn : l.length = n + 4) : sealN (l.take n) = l ↔ feedN fullN l = stn 32 fullN := by
  have hr : feedN fullN (l.take n) < 2 ^ 32 := feedN_lt _ _ full_lt (hb.take n)
  have ho : ofN (l.take n) = feedN fullN (l.take n) ^^^ fullN := by unfold ofN moreN; rw [Nat.zero_xor]
  obtain ⟨c, hc, hl⟩ : ∃ c, c < 2 ^ 32 ∧ l = l.take n ++ le4 c := by
    have e := split4 l n hn
    have g : ∀ j : Nat, 0 ≤ rd l ((j : Nat) : Int) ∧ rd l ((j : Nat) : Int) < 256 := fun j => hb.rd _
    have g0 := g (n + 0)
    have g1 := g (n + 1)
    have g2 := g (n + 2)
    have g3 := g (n + 3)
    generalize rd l ((n + 0 : Nat) : Int) = b0 at e g0
    generalize rd l ((n + 1 : Nat) : Int) = b1 at e g1
    generalize rd l ((n + 2 : Nat) : Int) = b2 at e g2
    generalize rd l ((n + 3 : Nat) : Int) = b3 at e g3
    refine ⟨(b0 + 256 * b1 + 65536 * b2 + 16777216 * b3).toNat, by omega, ?_⟩
    have e4 : le4 (b0 + 256 * b1 + 65536 * b2 + 16777216 * b3).toNat = [b0, b1, b2, b3] := by
      unfold le4
      simp only [List.cons.injEq, and_true]
      refine ⟨?_, ?_, ?_, ?_⟩ <;> omega
    rw [e4]
    exact e
  have hf : feedN fullN l = stn 32 (feedN fullN (l.take n) ^^^ c) := by
    conv => lhs; rw [hl]
    rw [feedN_app, feed_le4 _ c hc]
  rw [hf]
  constructor
  · intro h
    have h4 : le4 (ofN (l.take n)) = le4 c := by
      have : l.take n ++ le4 (ofN (l.take n)) = l.take n ++ le4 c := h.trans hl
      exact List.append_cancel_left this
    have f1 := feed_le4 0 (ofN (l.take n)) (ofN_lt (hb.take n))
    have f2 := feed_le4 0 c hc
    rw [h4, f2, Nat.zero_xor, Nat.zero_xor] at f1
    have ec := stn_inj 32 hc (ofN_lt (hb.take n)) f1
    rw [ec, ho]
    refine congrArg (stn 32) ?_
    rw [← Nat.xor_assoc, Nat.xor_self, Nat.zero_xor]
  · intro h
    have e := stn_inj 32 (Nat.xor_lt_two_pow hr hc) full_lt h
    have ec : c = ofN (l.take n) := by
      rw [ho]
      have q := congrArg (fun z => feedN fullN (l.take n) ^^^ z) e
      generalize feedN fullN (l.take n) = rr at q ⊢
      simp only [← Nat.xor_assoc, Nat.xor_self, Nat.zero_xor] at q
      exact q
    unfold sealN
    rw [← ec]
    exact hl.symm
theorem u32a1 {a : Nat} (ha : a < 2 ^ 32) : Go.bits .and .u32 (a : Int) 1 = ((a % 2 : Nat) : Int) := by
  have e : (BitVec.ofInt 32 (a : Int) &&& BitVec.ofInt 32 (1 : Int)).toNat = a % 2 := by
    rw [BitVec.toNat_and, u32of ha, show (BitVec.ofInt 32 (1 : Int)).toNat = 1 by decide, Nat.and_one_is_mod]
  show IntKind.u32.wrap ((BitVec.ofInt 32 (a : Int) &&& BitVec.ofInt 32 (1 : Int)).toNat : Int) = _
  rw [e, show IntKind.u32.wrap ((a % 2 : Nat) : Int) = ((a % 2 : Nat) : Int) % 4294967296 by simp [IntKind.wrap, IntKind.bits, IntKind.signed]]
  omega
/-- The bits that are turned: those of the mask that lie within. -/
def turns (mask f L : Nat) : Nat → Nat
  | 0 => 0
  | k + 1 => if mask / 2 ^ k % 2 = 1 ∧ f + k < 8 * L then turns mask f L k ^^^ 2 ^ k else turns mask f L k
theorem turns_lt (mask f L : Nat) : ∀ k, turns mask f L k < 2 ^ k
  | 0 => by show (0 : Nat) < 1; decide
  | k + 1 => by
    have ih := turns_lt mask f L k
    rw [turns]
    have h2 : 2 ^ k < 2 ^ (k + 1) := Nat.pow_lt_pow_right (by decide) (by omega)
    split
    · exact Nat.xor_lt_two_pow (by omega) h2
    · omega
theorem turns_ne (mask f L k : Nat) : turns mask f L k ^^^ 2 ^ k ≠ 0 := fun h => by
  have e := xor_zero_eq h
  have := turns_lt mask f L k
  omega
theorem stn_bit (n k : Nat) (h : k ≤ n) : stn n (2 ^ k) = stn (n - k) 1 := by
  have e := stn_add k (n - k) (2 ^ k)
  rw [show k + (n - k) = n by omega] at e
  rw [e, show (2 : Nat) ^ k = 2 ^ k * 1 by rw [Nat.mul_one], stn_pow]
theorem turn_step {l : List Int} (hb : Byt l) (f k : Nat) (hq : f + k < 8 * l.length) : feedN fullN (l.set ((f + k) / 8) (((l[(f + k) / 8]'(by omega)).toNat ^^^ 2 ^ ((f + k) % 8) : Nat) : Int)) = feedN fullN l ^^^ stn (8 * l.length - f) (2 ^ k) := by
  rw [feed_flip l _ _ _ (by omega) hb, Nat.xor_comm]
  refine congrArg (fun z => feedN fullN l ^^^ z) ?_
  rw [stn_bit _ _ (by omega), stn_bit _ _ (by omega), show 8 * (l.length - (f + k) / 8) - (f + k) % 8 = 8 * l.length - f - k by omega]

theorem bw1 (k : Nat) (h : k < 32) : IntKind.u64.wrap (k : Int) = (k : Int) := wraps_u64 _ (by omega) (by omega)
theorem bw2 (mask k : Nat) (hm : mask < 2 ^ 32) (h : k < 32) : Go.bits .and .u32 (shr .u32 (mask : Int) (k : Int)) 1 = ((mask / 2 ^ k % 2 : Nat) : Int) := by
  rw [shr_at mask k (Nat.le_of_lt h)]
  exact u32a1 (Nat.lt_of_le_of_lt (Nat.div_le_self _ _) hm)
theorem bw3 (f k : Nat) (h : f + k < 100000) : wrap64 ((f : Int) + (k : Int)) = ((f + k : Nat) : Int) := by rw [wrap64_id (by omega) (by omega)]; omega
theorem bw4 (n : Nat) (h : n < 10000) : wrap64 (8 * (n : Int)) = ((8 * n : Nat) : Int) := by rw [wrap64_id (by omega) (by omega)]; omega
theorem bw5 (k : Nat) (h : k < 32) : wrap64 ((k : Int) + 1) = ((k + 1 : Nat) : Int) := by rw [wrap64_id (by omega) (by omega)]; omega
theorem bw6 (q : Nat) (h : q < 100000) : wrap64 (Int.tdiv (q : Int) 8) = ((q / 8 : Nat) : Int) := by rw [Int.tdiv_eq_ediv_of_nonneg (by omega), wrap64_id (by omega) (by omega)]; omega
theorem bw7 (q : Nat) (h : q < 100000) : IntKind.u64.wrap (Int.tmod (q : Int) 8) = ((q % 8 : Nat) : Int) := by rw [Int.tmod_eq_emod_of_nonneg (by omega), wraps_u64 _ (by omega) (by omega)]; omega
theorem cast_one {q : Nat} (h : q = 1) : (q : Int) = 1 := by omega
theorem cast_ne_one {q : Nat} (h : ¬ q = 1) : ¬ (q : Int) = 1 := by omega
theorem le4_leN (c : Nat) : leN 4 c = le4 c := by
  unfold le4
  rw [leN, leN, leN, leN, leN, Nat.div_div_eq_div_mul, Nat.div_div_eq_div_mul]
theorem back_sum {x : List Int} (hb : Byt x) (h : x.length = 128) (hl : longN x ≤ 108) (e : backN x = x) : feedN fullN x = stn 32 fullN := by
  have hbl := bodyN_len (frNum 4 4 x) (frNum 4 8 x) (frNum 4 12 x) (frNum 1 1 x) (p := payN x) (by rw [payN_len h hl]; exact hl)
  refine (ok_iff hb (n := 124) (by omega)).1 ?_
  unfold backN encN at e
  generalize bodyN (frNum 4 4 x) (frNum 4 8 x) (frNum 4 12 x) (frNum 1 1 x) (payN x) = b at hbl e
  have e2 : x.take 124 = b := by rw [← e, List.take_left' hbl]
  rw [e2]
  unfold sealN
  rw [← le4_leN]
  exact e
theorem dec_ours {l : List Int} (hb : Byt l) : ∃ v, frame_Decode.f l = some v ∧ (v.2.2.2.2.2 = 40 ∨ l.length = 128 ∧ goodN l) := by
  by_cases c : l.length = 128 ∧ goodN l
  · exact ⟨_, dec_good hb c.1 c.2, .inr c⟩
  · exact ⟨_, dec_bad hb c, .inl rfl⟩
theorem spoilt_end (mask f k : Nat) (s : List Int) (hs : feedN fullN s = stn 32 fullN) {x : List Int} (hb : Byt x) (hx : x.length = 128) (hk : k ≤ 32) (hF : feedN fullN x = feedN fullN s ^^^ stn (1024 - f) (turns mask f 128 k)) (i : Int) :
    Ev (fun r => lienlaw04_FrameSpoilt.j2 r (mask : Int) x (f : Int) (turns mask f 128 k != 0) i false) true := by
  obtain ⟨v, h1, h2⟩ := dec_ours hb
  refine Ev.step (fun r => by rw [lienlaw04_FrameSpoilt.j2]) ?_
  simp only [Bool.false_eq_true, if_false]
  rw [h1]
  refine Ev.bind (Ev.now v) ?_
  by_cases c : turns mask f 128 k = 0
  · rw [c]
    simp only [bne_self_eq_false, Bool.false_eq_true, if_false]
    exact Ev.now _
  · rw [bne_iff_ne.2 c]
    simp only [if_true]
    rcases h2 with h2 | ⟨_, hg⟩
    · rw [h2]
      exact Ev.now _
    · exfalso
      have h3 := back_sum hb hx hg.1 hg.2.2.2.2.2.2
      rw [hF, hs] at h3
      have q := congrArg (fun z => stn 32 fullN ^^^ z) h3
      simp only [← Nat.xor_assoc, Nat.xor_self, Nat.zero_xor] at q
      have hV := turns_lt mask f 128 k
      exact c (stn_inj0 _ (Nat.lt_of_lt_of_le hV (Nat.pow_le_pow_right (by decide) hk)) q)
theorem spoilt_l0 (mask f : Nat) (hm : mask < 2 ^ 32) (s : List Int) (hs : feedN fullN s = stn 32 fullN) (hf : f < 1024) : ∀ (d k : Nat) (x : List Int), k + d = 32 → Byt x → x.length = 128 → feedN fullN x = feedN fullN s ^^^ stn (1024 - f) (turns mask f 128 k) →
    Ev (fun r => lienlaw04_FrameSpoilt.l0 r (mask : Int) x (f : Int) (turns mask f 128 k != 0) (k : Int)) true
  | 0, k, x, hk, hb, hx, hF => by
    refine Ev.step (fun r => by rw [lienlaw04_FrameSpoilt.l0]) ?_
    simp only [if_neg (show ¬ (k : Int) < 32 by omega)]
    exact spoilt_end mask f k s hs hb hx (by omega) hF _
  | d + 1, k, x, hk, hb, hx, hF => by
    have hk1 : (k : Int) < 32 := by clear hF hs hb; omega
    have hk2 : (0 : Int) ≤ (k : Int) := Int.natCast_nonneg _
    have hk3 : k < 32 := by clear hF hs hb; omega
    have hfk : f + k < 100000 := by clear hF hs hb; omega
    have hxl : x.length < 10000 := by clear hF hs hb; omega
    by_cases c2 : f + k < 1024
    · have hi : (f + k) / 8 < x.length := by clear hF hs hb; omega
      have d2 : ((f + k : Nat) : Int) < ((8 * x.length : Nat) : Int) := by clear hF hs hb; omega
      have d4 : (((f + k) / 8 : Nat) : Int) < (x.length : Int) := Int.ofNat_lt.2 hi
      have hkd : k + 1 + d = 32 := by clear hF hs hb; omega
      refine Ev.step (fun r => by rw [lienlaw04_FrameSpoilt.l0, if_pos hk1, bw3 f k hfk, bw4 _ hxl, decide_eq_true d2]) ?_
      by_cases c1 : mask / 2 ^ k % 2 = 1
      · have h8 : (f + k) % 8 < 8 := Nat.mod_lt _ (by decide)
        obtain ⟨v1, v2⟩ := flip_val hb hi h8
        have et : turns mask f 128 (k + 1) = turns mask f 128 k ^^^ 2 ^ k := by rw [turns, if_pos ⟨c1, c2⟩]
        have en : (turns mask f 128 (k + 1) != 0) = true := by rw [et]; exact bne_iff_ne.2 (turns_ne _ _ _ _)
        have ts := turn_step hb f k (by rw [hx]; exact c2)
        have ih := spoilt_l0 mask f hm s hs hf d (k + 1) (x.set ((f + k) / 8) (((x[(f + k) / 8]).toNat ^^^ 2 ^ ((f + k) % 8) : Nat) : Int)) hkd (set_byt hb _ ⟨Int.natCast_nonneg _, Int.ofNat_lt.2 v2⟩) (by rw [List.length_set]; exact hx) (by
          rw [ts, hF, et, stn_lin, hx, Nat.xor_assoc])
        rw [en] at ih
        refine Ev.step (fun r => ?_) ih
        rw [lienlaw04_FrameSpoilt.j2, if_pos rfl, bw1 k hk3, if_pos hk2, bw2 mask k hm hk3, if_pos (cast_one c1), bw3 f k hfk, bw6 _ hfk, if_pos (Int.natCast_nonneg _), if_pos d4, bw7 _ hfk, if_pos (Int.natCast_nonneg _), v1, bw5 k hk3, Int.toNat_natCast]
      · have et : turns mask f 128 (k + 1) = turns mask f 128 k := by rw [turns, if_neg (fun h => c1 h.1)]
        have ih := spoilt_l0 mask f hm s hs hf d (k + 1) x hkd hb hx (by rw [et]; exact hF)
        rw [et] at ih
        refine Ev.step (fun r => ?_) ih
        rw [lienlaw04_FrameSpoilt.j2, if_pos rfl, bw1 k hk3, if_pos hk2, bw2 mask k hm hk3, if_neg (cast_ne_one c1), bw5 k hk3]
    · have d2 : ¬ ((f + k : Nat) : Int) < ((8 * x.length : Nat) : Int) := by clear hF hs hb; omega
      refine Ev.step (fun r => by rw [lienlaw04_FrameSpoilt.l0, if_pos hk1, bw3 f k hfk, bw4 _ hxl, decide_eq_false d2]) ?_
      exact spoilt_end mask f k s hs hb hx (by omega) hF _
theorem FrameSpoilt : lienlaw04_FrameSpoilt.Pure := by
  intro x y z kd l a m _ _ _ _ hw ha hm
  obtain ⟨mask, rfl, hmask⟩ := u32_nat (wf_u32 hm)
  have ha' : 0 ≤ a ∧ a < 65536 := by simp [Lit.wf, IntKind.min, IntKind.max, IntKind.bits, IntKind.signed] at ha; omega
  obtain ⟨t, ht, hl, hb⟩ := fcut_some l (Byt.of_wf hw.2.2)
  refine Ev.rounds ?_
  unfold lienlaw04_FrameSpoilt.f
  rw [ht]
  refine Ev.bind (Ev.now t) ?_
  have bad : ∀ (b : List Int) (e : Int) (q : Bool), frame_Encode.f x y z kd t = some (b, e) → e ≠ 0 → Ev (fun k => (frame_Encode.f x y z kd t).bind fun bt115 => ((lienlaw04_awake.f).bind fun t119 => (if t119 = true then (if bt115.2 = 0 then (if (mask : Int) = 0 then (lienlaw04_FrameSpoilt.j0 k a (mask : Int) bt115.1 bt115.2 true) else (lienlaw04_FrameSpoilt.j0 k a (mask : Int) bt115.1 bt115.2 ((bt115.1.length : Int) != 128))) else (lienlaw04_FrameSpoilt.j0 k a (mask : Int) bt115.1 bt115.2 true)) else (some false)))) true := by
    intro b e q he hne
    rw [he]
    refine Ev.bind (Ev.now (b, e)) ?_
    refine Ev.bind awake04 ?_
    simp only [if_true, if_neg hne]
    refine Ev.step (fun r => by rw [lienlaw04_FrameSpoilt.j0]) ?_
    simp only [if_true, if_neg hne]
    exact Ev.now _
  by_cases c : 0 ≤ x ∧ x ≤ 2147483647 ∧ 0 ≤ y ∧ y ≤ 2147483647 ∧ 0 ≤ z ∧ z ≤ 2147483647 ∧ 1 ≤ kd ∧ kd ≤ 4
  · by_cases cl : 108 < t.length
    · exact bad [] 2 true (enc_bad2 c cl) (by decide)
    · obtain ⟨n0, rfl⟩ : ∃ n : Nat, x = (n : Int) := ⟨x.toNat, by omega⟩
      obtain ⟨n1, rfl⟩ : ∃ n : Nat, y = (n : Int) := ⟨y.toNat, by omega⟩
      obtain ⟨n2, rfl⟩ : ∃ n : Nat, z = (n : Int) := ⟨z.toNat, by omega⟩
      obtain ⟨kn, rfl⟩ : ∃ n : Nat, kd = (n : Int) := ⟨kd.toNat, by omega⟩
      have ho : okN n0 n1 n2 kn t := ⟨by omega, by omega, by omega, by omega, by omega, by omega⟩
      obtain ⟨hg, _⟩ := good_enc ho
      have hlen := encN_len n0 n1 n2 kn ho.2.2.2.2.2
      have hbs := encN_byt n0 n1 n2 kn hb
      have hs := back_sum hbs hlen hg.1 hg.2.2.2.2.2.2
      rw [enc_some ho hb]
      generalize encN n0 n1 n2 kn t = s at hlen hbs hs
      refine Ev.bind (Ev.now (s, 0)) ?_
      refine Ev.bind awake04 ?_
      simp only [if_true]
      by_cases cm : (mask : Int) = 0
      · simp only [if_pos cm]
        refine Ev.step (fun r => by rw [lienlaw04_FrameSpoilt.j0]) ?_
        simp only [if_true, hlen]
        exact Ev.now _
      · simp only [if_neg cm]
        rw [show ((s.length : Int) != 128) = false by rw [hlen]; rfl]
        refine Ev.step (fun r => by rw [lienlaw04_FrameSpoilt.j0]) ?_
        simp only [Bool.false_eq_true, if_false]
        obtain ⟨f, hf, hf2⟩ : ∃ f : Nat, a % 1024 = (f : Int) ∧ f < 1024 := ⟨(a % 1024).toNat, by omega, by omega⟩
        have w2 : Int.tmod (wrap64 a) 1024 = (f : Int) := by rw [wrap64_id (by omega) (by omega), Int.tmod_eq_emod_of_nonneg (by omega), hf]
        rw [w2]
        exact spoilt_l0 mask f hmask s hs hf2 32 0 s (by omega) hbs hlen (by rw [turns, stn_zero, Nat.xor_zero])
  · exact bad [] 1 true (enc_bad1 c) (by decide)

end Go.Proofs.Ytljknhjmaafmkaa.Pure
