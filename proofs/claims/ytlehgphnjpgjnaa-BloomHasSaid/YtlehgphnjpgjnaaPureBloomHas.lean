/- Written for the statement BloomHas over the program's printed functions: numbers and lists alone. -/
import Derived.Test.YtlehgphnjpgjnaaPBloomHasx
set_option linter.unusedVariables false
set_option linter.unusedSimpArgs false
namespace Go.Proofs.Ytlehgphnjpgjnaa.Pure
open Go.RowKit Go.Proofs.Ytlehgphnjpgjnaa.PBloomHas Go.Proofs.YtlehgphnjpgjnaaW Go.Proofs.YtlehgphnjpgjnaaW.PrintWords Go.Proofs.YtlehgphnjpgjnaaW.PrintLast Go.Proofs.YtlehgphnjpgjnaaW.PrintMore

theorem wrap64_id {x : Int} (h0 : -9223372036854775808 ≤ x) (h1 : x ≤ 9223372036854775807) : wrap64 x = x := by unfold wrap64; omega
theorem wu64 (n : Int) : IntKind.u64.wrap n = n % 18446744073709551616 := by simp [IntKind.wrap, IntKind.bits, IntKind.signed]
theorem wraps_u64 (n : Int) (h0 : 0 ≤ n) (h1 : n < 2 ^ 64) : IntKind.u64.wrap n = n := by rw [wu64]; omega
theorem u64_and127 {x : Int} (h0 : 0 ≤ x) (h1 : x < 18446744073709551616) : Go.bits .and .u64 x 127 = x % 128 := Go.bits_mask .u64 64 (by decide) wraps_u64 7 (by decide) x h0 h1
theorem u8_and127 {x : Int} (h0 : 0 ≤ x) (h1 : x < 256) : Go.bits .and .u8 x 127 = x % 128 := Go.bits_mask .u8 8 (by decide) Go.wraps_u8 7 (by decide) x h0 h1
theorem bits_comm_or (k : IntKind) (x y : Int) : Go.bits .or k x y = Go.bits .or k y x := by simp [Go.bits, BitVec.or_comm]
theorem u8_or_128 {x : Int} (h0 : 0 ≤ x) (h1 : x < 128) : Go.bits .or .u8 x 128 = x + 128 := by
  rw [bits_comm_or, Go.bits_join .u8 8 (by decide) Go.wraps_u8 7 128 x (by decide) (by decide) (by decide) h0 h1 (by omega)]; omega
theorem u64_join (i : Nat) {x y : Int} (hx0 : 0 ≤ x) (hx : x % 2 ^ i = 0) (hx1 : x < 18446744073709551616) (hy0 : 0 ≤ y) (hy : y < 2 ^ i) (hy1 : y < 18446744073709551616) : Go.bits .or .u64 x y = x + y :=
  Go.bits_join .u64 64 (by decide) wraps_u64 i x y hx0 hx hx1 hy0 hy hy1
theorem wf_u64 {x : Int} (h : (Lit.int .u64 x).wf = true) : 0 ≤ x ∧ x < 18446744073709551616 := by
  simp [Lit.wf, IntKind.min, IntKind.max, IntKind.bits, IntKind.signed] at h; omega
theorem wf_u8 {x : Int} (h : (Lit.int .u8 x).wf = true) : 0 ≤ x ∧ x < 256 := by
  simp [Lit.wf, IntKind.min, IntKind.max, IntKind.bits, IntKind.signed] at h; omega
theorem wf_i64 {x : Int} (h : (Lit.int .i64 x).wf = true) : -9223372036854775808 ≤ x ∧ x ≤ 9223372036854775807 := by
  simp [Lit.wf, IntKind.min, IntKind.max, IntKind.bits, IntKind.signed] at h; omega
def Byt (l : List Int) : Prop := ∀ x ∈ l, 0 ≤ x ∧ x < 256
theorem Byt.of_wf {l : List Int} (h : ∀ x ∈ l, (Lit.int .u8 x).wf = true) : Byt l := fun x hx => wf_u8 (h x hx)
theorem Byt.rd {l : List Int} (h : Byt l) (i : Int) : 0 ≤ rd l i ∧ rd l i < 256 := by
  unfold PrintWords.rd
  rw [List.getD_eq_getElem?_getD]
  cases e : l[i.toNat]? with
  | none => simp
  | some x => exact h x (List.mem_of_getElem? e)
theorem Byt.take {l : List Int} (h : Byt l) (n : Nat) : Byt (l.take n) := fun x hx => h x (List.mem_of_mem_take hx)
theorem Byt.drop {l : List Int} (h : Byt l) (n : Nat) : Byt (l.drop n) := fun x hx => h x (List.mem_of_mem_drop hx)
theorem rd_nat (l : List Int) (i : Nat) : rd l (i : Int) = l.getD i 0 := by unfold PrintWords.rd; simp
theorem rd_drop {l : List Int} {i : Nat} (h : i < l.length) : l.drop i = rd l (i : Int) :: l.drop (i + 1) := by
  rw [rd_nat, List.drop_eq_getElem_cons h]; simp [List.getD_eq_getElem?_getD, List.getElem?_eq_getElem h]

theorem bits_u64_range (op : BinOp) (x y : Int) : 0 ≤ Go.bits op .u64 x y ∧ Go.bits op .u64 x y < 18446744073709551616 := by
  unfold Go.bits
  rw [wu64]
  omega
def hashEnd (h : Int) : Int := Go.bits .xor .u64 (IntKind.u64.wrap ((Go.bits .xor .u64 h (h / 2147483648)) * 10723151780598845931)) ((IntKind.u64.wrap ((Go.bits .xor .u64 h (h / 2147483648)) * 10723151780598845931)) / 536870912)
def hashGo (a : ByteArray) : Nat → Nat → Int → Int
  | 0, _, h => hashEnd h
  | d + 1, i, h => hashGo a d (i + 1) (IntKind.u64.wrap ((Go.bits .xor .u64 h (IntKind.u64.wrap (bt a (i : Int)))) * 13787848793156543929))
def hashOf (a : ByteArray) : Int := hashGo a a.size 0 11400714819323198485
theorem hashGo_range (a : ByteArray) : ∀ (d i : Nat) (h : Int), 0 ≤ hashGo a d i h ∧ hashGo a d i h < 18446744073709551616
  | 0, _, _ => by unfold hashGo hashEnd; exact bits_u64_range _ _ _
  | d + 1, i, h => hashGo_range a d (i + 1) _
theorem hashOf_range (a : ByteArray) : 0 ≤ hashOf a ∧ hashOf a < 18446744073709551616 := hashGo_range a _ _ _
theorem bloom_Hash_l0 (a : ByteArray) (hs : a.size ≤ 140737488351232) : ∀ (d i k : Nat) (h : Int), i + d = a.size → d + 1 ≤ k → bloom_Hash.l0 k a h (a.size : Int) (i : Int) = some (hashGo a d i h)
  | 0, i, k, h, hi, hk => by
    obtain ⟨k, rfl⟩ : ∃ m, k = m + 1 := ⟨k - 1, by omega⟩
    rw [bloom_Hash.l0, if_neg (by omega)]
    rfl
  | d + 1, i, k, h, hi, hk => by
    obtain ⟨k, rfl⟩ : ∃ m, k = m + 1 := ⟨k - 1, by omega⟩
    rw [bloom_Hash.l0, if_pos (by omega), if_pos (by omega), if_pos (by omega), wrap64_id (by omega) (by omega), show ((i : Int) + 1) = ((i + 1 : Nat) : Int) by omega]
    exact bloom_Hash_l0 a hs d (i + 1) k _ (by omega) (by omega)
theorem bloom_Hash_at (a : ByteArray) (hs : a.size ≤ 140737488351232) (k : Nat) (hk : a.size + 1 ≤ k) : bloom_Hash.f k a = some (hashOf a) := bloom_Hash_l0 a hs a.size 0 k _ (by omega) hk
def keyMarks (m p : Int) (ks : List ByteArray) (xs : List Int) : List Int := ks.foldl (fun xs a => bl_marks m (bl_step (hashOf a)) p.toNat (hashOf a) xs) xs
theorem keys_some (m p : Int) : ∀ (ks : List ByteArray) (xs : List Int), (∀ a ∈ ks, a.size ≤ 140737488351232) → bl_keys m p ks xs = some (keyMarks m p ks xs)
  | [], xs, _ => rfl
  | a :: ks, xs, h => by
    rw [bl_keys, bloom_Hash_at a (h a (List.mem_cons_self ..)) _ (Nat.le_refl _), Option.bind_some, if_pos (hashOf_range a).1]
    exact keys_some m p ks _ (fun b hb => h b (List.mem_cons_of_mem _ hb))
theorem mark_len (xs : List Int) (p : Int) : (bl_mark xs p).length = xs.length := by unfold bl_mark; exact List.length_set ..
theorem marks_len (m s : Int) : ∀ (n : Nat) (h : Int) (xs : List Int), (bl_marks m s n h xs).length = xs.length
  | 0, _, _ => rfl
  | n + 1, h, xs => by rw [bl_marks, marks_len m s n, mark_len]
theorem keyMarks_len (m p : Int) : ∀ (ks : List ByteArray) (xs : List Int), (keyMarks m p ks xs).length = xs.length
  | [], _ => rfl
  | a :: ks, xs => by
    show (keyMarks m p ks _).length = _
    rw [keyMarks_len m p ks, marks_len]
theorem nb_bounds (n : Nat) (b : Int) (hn : n ≤ 4096) (h1 : 1 ≤ b) (h2 : b ≤ 16) : 8 ≤ bl_nb n b ∧ bl_nb n b ≤ 8192 ∧ mx 64 (((n : Int) * b + 7) / 8 * 8) = 8 * (bl_nb n b : Int) := by
  have hp0 : 0 ≤ (n : Int) * b := Int.mul_nonneg (by omega) (by omega)
  have hp1 : (n : Int) * b ≤ 65536 := Int.le_trans (Int.mul_le_mul (show (n : Int) ≤ 4096 by omega) (show b ≤ 16 by omega) (by omega) (by omega)) (by decide)
  unfold bl_nb mx
  split <;> omega
theorem pr_bounds (b : Int) (h1 : 1 ≤ b) (h2 : b ≤ 16) : 1 ≤ bl_pr b ∧ bl_pr b ≤ 11 := by
  unfold bl_pr mx
  split <;> omega
def makeOf (ks : List ByteArray) (b : Int) : List Int := keyMarks (8 * (bl_nb ks.length b : Int)) (bl_pr b) ks ((List.replicate (bl_nb ks.length b + 1) 0).set 0 (bl_pr b))
theorem Make_some (ks : List ByteArray) (b : Int) (hn : ks.length ≤ 4096) (h1 : 1 ≤ b) (h2 : b ≤ 16) (hs : ∀ a ∈ ks, a.size ≤ 140737488351232) : bloom_Make.f ks b = some (makeOf ks b, 0) := by
  unfold bloom_Make.f
  rw [if_neg (by omega), if_neg (by omega), if_neg (by omega), keys_some _ _ _ _ hs]
  rfl
theorem makeOf_len (ks : List ByteArray) (b : Int) : (makeOf ks b).length = bl_nb ks.length b + 1 := by
  unfold makeOf
  rw [keyMarks_len, List.length_set, List.length_replicate]

theorem awake11o : lienlaw11_awake.f = some true := by kernel_rfl
theorem awake11 : Ev (fun _ => lienlaw11_awake.f) true := by rw [awake11o]; exact Ev.now true

theorem u8_or_nat {x y : Int} (hx0 : 0 ≤ x) (hx1 : x < 256) (hy0 : 0 ≤ y) (hy1 : y < 256) : Go.bits .or .u8 x y = ((x.toNat ||| y.toNat : Nat) : Int) := by
  obtain ⟨a, rfl⟩ : ∃ a : Nat, x = (a : Int) := ⟨x.toNat, by omega⟩
  obtain ⟨b, rfl⟩ : ∃ b : Nat, y = (b : Int) := ⟨y.toNat, by omega⟩
  have ha : a < 2 ^ 8 := by omega
  have hb : b < 2 ^ 8 := by omega
  have hlt : a ||| b < 2 ^ 8 := Nat.or_lt_two_pow ha hb
  have e : (BitVec.ofInt 8 (a : Int) ||| BitVec.ofInt 8 (b : Int)).toNat = a ||| b := by
    rw [BitVec.toNat_or, BitVec.toNat_ofInt, BitVec.toNat_ofInt]
    rw [show ((a : Int) % ((2 ^ 8 : Nat) : Int)).toNat = a by omega, show ((b : Int) % ((2 ^ 8 : Nat) : Int)).toNat = b by omega]
  show IntKind.u8.wrap ((BitVec.ofInt 8 (a : Int) ||| BitVec.ofInt 8 (b : Int)).toNat : Int) = _
  rw [e, Go.wraps_u8 _ (by omega) (by omega)]
  rfl
theorem u8_or_range {x y : Int} (hx0 : 0 ≤ x) (hx1 : x < 256) (hy0 : 0 ≤ y) (hy1 : y < 256) : 0 ≤ Go.bits .or .u8 x y ∧ Go.bits .or .u8 x y < 256 := by
  rw [u8_or_nat hx0 hx1 hy0 hy1]
  have : x.toNat ||| y.toNat < 2 ^ 8 := Nat.or_lt_two_pow (by omega) (by omega)
  omega
theorem u8_or_right_comm {x a b : Int} (hx : 0 ≤ x ∧ x < 256) (ha : 0 ≤ a ∧ a < 256) (hb : 0 ≤ b ∧ b < 256) : Go.bits .or .u8 (Go.bits .or .u8 x a) b = Go.bits .or .u8 (Go.bits .or .u8 x b) a := by
  have h1 := u8_or_range hx.1 hx.2 ha.1 ha.2
  have h2 := u8_or_range hx.1 hx.2 hb.1 hb.2
  rw [u8_or_nat h1.1 h1.2 hb.1 hb.2, u8_or_nat h2.1 h2.2 ha.1 ha.2, u8_or_nat hx.1 hx.2 ha.1 ha.2, u8_or_nat hx.1 hx.2 hb.1 hb.2]
  simp only [Int.toNat_natCast]
  rw [Nat.or_assoc, Nat.or_comm a.toNat, ← Nat.or_assoc]
theorem u8_or_idem {x a : Int} (hx : 0 ≤ x ∧ x < 256) (ha : 0 ≤ a ∧ a < 256) : Go.bits .or .u8 (Go.bits .or .u8 x a) a = Go.bits .or .u8 x a := by
  have h1 := u8_or_range hx.1 hx.2 ha.1 ha.2
  rw [u8_or_nat h1.1 h1.2 ha.1 ha.2, u8_or_nat hx.1 hx.2 ha.1 ha.2]
  simp only [Int.toNat_natCast]
  rw [Nat.or_assoc, Nat.or_self]
theorem mask_range (q : Int) : 0 ≤ (2 : Int) ^ (q % 8).toNat % 256 ∧ (2 : Int) ^ (q % 8).toNat % 256 < 256 := by omega
theorem rd_set_self {xs : List Int} {i : Int} {v : Int} (h : i.toNat < xs.length) : rd (xs.set i.toNat v) i = v := by
  unfold PrintWords.rd
  rw [List.getD_eq_getElem?_getD, List.getElem?_set_self h]
  rfl
theorem rd_set_ne {xs : List Int} {i j : Int} {v : Int} (h : i.toNat ≠ j.toNat) : rd (xs.set i.toNat v) j = rd xs j := by
  unfold PrintWords.rd
  rw [List.getD_eq_getElem?_getD, List.getD_eq_getElem?_getD, List.getElem?_set_ne h]
theorem Byt.set {l : List Int} (h : Byt l) (i : Nat) {v : Int} (hv : 0 ≤ v ∧ v < 256) : Byt (l.set i v) := fun x hx => by
  rcases List.mem_or_eq_of_mem_set hx with h1 | h1
  · exact h x h1
  · rw [h1]; exact hv
theorem mark_byt {xs : List Int} (h : Byt xs) (p : Int) : Byt (bl_mark xs p) := h.set _ (u8_or_range (h.rd _).1 (h.rd _).2 (mask_range p).1 (mask_range p).2)
theorem mark_comm {xs : List Int} (h : Byt xs) (p q : Int) : bl_mark (bl_mark xs p) q = bl_mark (bl_mark xs q) p := by
  unfold bl_mark
  by_cases e : (1 + p / 8).toNat = (1 + q / 8).toNat
  · by_cases hl : (1 + p / 8).toNat < xs.length
    · have a1 : rd (xs.set (1 + p / 8).toNat (Go.bits .or .u8 (rd xs (1 + p / 8)) (2 ^ (p % 8).toNat % 256))) (1 + q / 8) = Go.bits .or .u8 (rd xs (1 + p / 8)) (2 ^ (p % 8).toNat % 256) := by
        rw [e]; exact rd_set_self (by omega)
      have a2 : rd (xs.set (1 + q / 8).toNat (Go.bits .or .u8 (rd xs (1 + q / 8)) (2 ^ (q % 8).toNat % 256))) (1 + p / 8) = Go.bits .or .u8 (rd xs (1 + q / 8)) (2 ^ (q % 8).toNat % 256) := by
        rw [← e]; exact rd_set_self (by omega)
      have a3 : rd xs (1 + q / 8) = rd xs (1 + p / 8) := by unfold PrintWords.rd; rw [e]
      rw [a1, a2, a3, ← e, List.set_set, List.set_set, u8_or_right_comm (h.rd _) (mask_range p) (mask_range q)]
    · have s1 : ∀ v, xs.set (1 + p / 8).toNat v = xs := fun v => List.set_eq_of_length_le (by omega)
      have s2 : ∀ v, xs.set (1 + q / 8).toNat v = xs := fun v => List.set_eq_of_length_le (by omega)
      simp only [s1, s2]
  · rw [rd_set_ne e, rd_set_ne (fun h => e h.symm), List.set_comm _ _ e]
theorem mark_idem {xs : List Int} (h : Byt xs) (p : Int) : bl_mark (bl_mark xs p) p = bl_mark xs p := by
  unfold bl_mark
  by_cases hl : (1 + p / 8).toNat < xs.length
  · rw [rd_set_self hl, List.set_set, u8_or_idem (h.rd _) (mask_range p)]
  · have s1 : ∀ v, xs.set (1 + p / 8).toNat v = xs := fun v => List.set_eq_of_length_le (by omega)
    rw [s1, s1]
def blPlaces (m s : Int) : Nat → Int → List Int
  | 0, _ => []
  | n + 1, h => (h % m) :: blPlaces m s n (IntKind.u64.wrap (h + s))
theorem marks_places (m s : Int) : ∀ (n : Nat) (h : Int) (xs : List Int), bl_marks m s n h xs = (blPlaces m s n h).foldl bl_mark xs
  | 0, _, _ => rfl
  | n + 1, h, xs => by rw [bl_marks, marks_places m s n]; rfl
def keyPlaces (m p : Int) (a : ByteArray) : List Int := blPlaces m (bl_step (hashOf a)) p.toNat (hashOf a)
theorem keyMarks_places (m p : Int) : ∀ (ks : List ByteArray) (xs : List Int), keyMarks m p ks xs = (ks.flatMap (keyPlaces m p)).foldl bl_mark xs
  | [], _ => rfl
  | a :: ks, xs => by
    show keyMarks m p ks (bl_marks m (bl_step (hashOf a)) p.toNat (hashOf a) xs) = _
    rw [keyMarks_places m p ks, List.flatMap_cons, List.foldl_append, marks_places]
    rfl
theorem fold_byt : ∀ (L : List Int) {xs : List Int}, Byt xs → Byt (L.foldl bl_mark xs)
  | [], _, h => h
  | p :: L, _, h => fold_byt L (mark_byt h p)
theorem fold_mark : ∀ (L : List Int) {xs : List Int} (_ : Byt xs) (p : Int), L.foldl bl_mark (bl_mark xs p) = bl_mark (L.foldl bl_mark xs) p
  | [], _, _, _ => rfl
  | q :: L, xs, h, p => by
    show L.foldl bl_mark (bl_mark (bl_mark xs p) q) = bl_mark (L.foldl bl_mark (bl_mark xs q)) p
    rw [mark_comm h, fold_mark L (mark_byt h q) p]
theorem fold_absorb : ∀ (L : List Int) {xs : List Int} (_ : Byt xs) (p : Int), p ∈ L → bl_mark (L.foldl bl_mark xs) p = L.foldl bl_mark xs
  | q :: L, xs, h, p, hp => by
    show bl_mark (L.foldl bl_mark (bl_mark xs q)) p = L.foldl bl_mark (bl_mark xs q)
    rcases List.mem_cons.1 hp with rfl | hp
    · rw [← fold_mark L (mark_byt h p), mark_idem h]
    · exact fold_absorb L (mark_byt h q) p hp
theorem fold_within : ∀ (L' L : List Int) {xs : List Int} (_ : Byt xs), (∀ p ∈ L', p ∈ L) → L'.foldl bl_mark (L.foldl bl_mark xs) = L.foldl bl_mark xs
  | [], _, _, _, _ => rfl
  | p :: L', L, xs, h, hs => by
    show L'.foldl bl_mark (bl_mark (L.foldl bl_mark xs) p) = _
    rw [fold_absorb L h p (hs p (List.mem_cons_self ..))]
    exact fold_within L' L h (fun q hq => hs q (List.mem_cons_of_mem _ hq))
theorem fold_swap : ∀ (L' L : List Int) {xs : List Int} (_ : Byt xs), L'.foldl bl_mark (L.foldl bl_mark xs) = L.foldl bl_mark (L'.foldl bl_mark xs)
  | [], _, _, _ => rfl
  | p :: L', L, xs, h => by
    show L'.foldl bl_mark (bl_mark (L.foldl bl_mark xs) p) = L.foldl bl_mark (L'.foldl bl_mark (bl_mark xs p))
    rw [← fold_mark L h, fold_swap L' L (mark_byt h p)]
theorem fold_same (L L' : List Int) {xs : List Int} (h : Byt xs) (h1 : ∀ p ∈ L, p ∈ L') (h2 : ∀ p ∈ L', p ∈ L) : L.foldl bl_mark xs = L'.foldl bl_mark xs := by
  rw [← fold_within L' L h h2, fold_swap L' L h, fold_within L L' h h1]
theorem init_byt (n : Nat) (b : Int) (h1 : 1 ≤ b) (h2 : b ≤ 16) : Byt ((List.replicate n (0 : Int)).set 0 (bl_pr b)) := by
  have hp := pr_bounds b h1 h2
  refine Byt.set (fun x hx => ?_) _ (by omega)
  rw [List.eq_of_mem_replicate hx]
  omega
theorem makeOf_same (ks ls : List ByteArray) (b : Int) (h1 : 1 ≤ b) (h2 : b ≤ 16) (hl : ls.length = ks.length) (ha : ∀ a ∈ ks, a ∈ ls) (hb : ∀ a ∈ ls, a ∈ ks) : makeOf ks b = makeOf ls b := by
  unfold makeOf
  rw [hl, keyMarks_places, keyMarks_places]
  refine fold_same _ _ (init_byt _ b h1 h2) (fun p hp => ?_) (fun p hp => ?_)
  · obtain ⟨a, h1, h2⟩ := List.mem_flatMap.1 hp
    exact List.mem_flatMap.2 ⟨a, ha a h1, h2⟩
  · obtain ⟨a, h1, h2⟩ := List.mem_flatMap.1 hp
    exact List.mem_flatMap.2 ⟨a, hb a h1, h2⟩

theorem bitA : ((List.range 256).all fun x => (List.range 8).all fun i => Go.bits .and .u8 ((x : Int) / 2 ^ i) 1 == Int.tmod (shr .u8 (x : Int) (i : Int)) 2) = true := by kernel_rfl
theorem bitB : ((List.range 256).all fun x => (List.range 8).all fun i => (Go.bits .and .u8 (x : Int) (2 ^ i % 256) != 0) == !(Int.tmod (shr .u8 (x : Int) (i : Int)) 2 == 0)) = true := by kernel_rfl
theorem bitC : ((List.range 256).all fun x => (List.range 8).all fun i => !(Go.bits .or .u8 (x : Int) (2 ^ i % 256) == (x : Int)) || (Go.bits .and .u8 (x : Int) (2 ^ i % 256) != 0)) = true := by kernel_rfl
theorem bitD : ((List.range 256).all fun x => (List.range 8).all fun i => decide (bl_cnt8 (Go.bits .or .u8 (x : Int) (2 ^ i % 256)) 8 0 0 ≤ bl_cnt8 (x : Int) 8 0 0 + 1)) = true := by kernel_rfl
theorem bitE : ((List.range 256).all fun x => decide (0 ≤ bl_cnt8 (x : Int) 8 0 0 ∧ bl_cnt8 (x : Int) 8 0 0 ≤ 8)) = true := by kernel_rfl
theorem of_all {P : Nat → Nat → Bool} (h : ((List.range 256).all fun x => (List.range 8).all fun i => P x i) = true) {x i : Nat} (hx : x < 256) (hi : i < 8) : P x i = true :=
  List.all_eq_true.1 (List.all_eq_true.1 h x (List.mem_range.2 hx)) i (List.mem_range.2 hi)
theorem nat_of {x n : Int} (h : 0 ≤ x ∧ x < n) : ∃ a : Nat, x = (a : Int) ∧ (a : Int) < n := ⟨x.toNat, by omega, by omega⟩
theorem and_one {x : Int} (hx : 0 ≤ x ∧ x < 256) {i : Nat} (hi : i < 8) : Go.bits .and .u8 (x / 2 ^ i) 1 = Int.tmod (shr .u8 x (i : Int)) 2 := by
  obtain ⟨a, rfl, h⟩ := nat_of hx
  exact beq_iff_eq.1 (of_all bitA (by omega) hi)
theorem and_mask {x : Int} (hx : 0 ≤ x ∧ x < 256) {i : Nat} (hi : i < 8) : (Go.bits .and .u8 x (2 ^ i % 256) != 0) = !(Int.tmod (shr .u8 x (i : Int)) 2 == 0) := by
  obtain ⟨a, rfl, h⟩ := nat_of hx
  exact beq_iff_eq.1 (of_all bitB (by omega) hi)
theorem or_and {x : Int} (hx : 0 ≤ x ∧ x < 256) {i : Nat} (hi : i < 8) (h : Go.bits .or .u8 x (2 ^ i % 256) = x) : (Go.bits .and .u8 x (2 ^ i % 256) != 0) = true := by
  obtain ⟨a, rfl, h'⟩ := nat_of hx
  have q := of_all bitC (show a < 256 by omega) hi
  simpa [h] using q
theorem pop_or {x : Int} (hx : 0 ≤ x ∧ x < 256) {i : Nat} (hi : i < 8) : bl_cnt8 (Go.bits .or .u8 x (2 ^ i % 256)) 8 0 0 ≤ bl_cnt8 x 8 0 0 + 1 := by
  obtain ⟨a, rfl, h⟩ := nat_of hx
  exact of_decide_eq_true (of_all bitD (show a < 256 by omega) hi)
theorem pop_range {x : Int} (hx : 0 ≤ x ∧ x < 256) : 0 ≤ bl_cnt8 x 8 0 0 ∧ bl_cnt8 x 8 0 0 ≤ 8 := by
  obtain ⟨a, rfl, h⟩ := nat_of hx
  exact of_decide_eq_true (List.all_eq_true.1 bitE a (List.mem_range.2 (by omega)))

theorem ref_Hash_l0 (a : ByteArray) (hs : a.size ≤ 140737488351232) : ∀ (d i k : Nat) (h : Int), i + d = a.size → d + 1 ≤ k → lienref11_Hash.l0 k a h (i : Int) = some (hashGo a d i h)
  | 0, i, k, h, hi, hk => by
    obtain ⟨k, rfl⟩ : ∃ m, k = m + 1 := ⟨k - 1, by omega⟩
    rw [lienref11_Hash.l0, if_neg (by omega)]
    rfl
  | d + 1, i, k, h, hi, hk => by
    obtain ⟨k, rfl⟩ : ∃ m, k = m + 1 := ⟨k - 1, by omega⟩
    rw [lienref11_Hash.l0, if_pos (by omega), if_pos (by omega), wrap64_id (by omega) (by omega), show ((i : Int) + 1) = ((i + 1 : Nat) : Int) by omega]
    exact ref_Hash_l0 a hs d (i + 1) k _ (by omega) (by omega)
theorem ref_Hash_ev (a : ByteArray) (hs : a.size ≤ 140737488351232) : Ev (fun k => lienref11_Hash.f k a) (hashOf a) := ⟨a.size + 1, fun k hk => ref_Hash_l0 a hs a.size 0 k _ (by omega) hk⟩
theorem places_mem {m s : Int} (hm : 0 < m) : ∀ (n : Nat) (h : Int), ∀ q ∈ blPlaces m s n h, 0 ≤ q ∧ q < m
  | 0, _, q, hq => by cases hq
  | n + 1, h, q, hq => by
    rcases List.mem_cons.1 hq with rfl | hq
    · exact ⟨Int.emod_nonneg _ (by omega), Int.emod_lt_of_pos _ hm⟩
    · exact places_mem hm n _ q hq
theorem places_len (m s : Int) : ∀ (n : Nat) (h : Int), (blPlaces m s n h).length = n
  | 0, _ => rfl
  | n + 1, h => by rw [blPlaces, List.length_cons, places_len m s n]
theorem ref_Places_l0 (m s : Int) (hm : 0 < m) (hm2 : m ≤ 65536) (p : Nat) (hp : p ≤ 16) : ∀ (d j : Nat) (h : Int) (acc : List Int), j + d = p → acc.length = j → 0 ≤ h → h < 18446744073709551616 → ∀ k, d + 1 ≤ k → lienref11_Places.l0 k m (p : Int) h s acc (j : Int) = some (acc ++ blPlaces m s d h)
  | 0, j, h, acc, hj, ha, h0, h1, k, hk => by
    obtain ⟨k, rfl⟩ : ∃ m, k = m + 1 := ⟨k - 1, by omega⟩
    rw [lienref11_Places.l0, if_neg (by omega), blPlaces, List.append_nil]
  | d + 1, j, h, acc, hj, ha, h0, h1, k, hk => by
    obtain ⟨k, rfl⟩ : ∃ m, k = m + 1 := ⟨k - 1, by omega⟩
    have w1 : IntKind.u64.wrap m = m := wraps_u64 _ (by omega) (by omega)
    have w2 : Int.tmod h m = h % m := Int.tmod_eq_emod_of_nonneg h0
    have w3 : 0 ≤ h % m ∧ h % m < m := ⟨Int.emod_nonneg _ (by omega), Int.emod_lt_of_pos _ hm⟩
    rw [lienref11_Places.l0, if_pos (by omega), w1, if_neg (by omega), if_pos (by omega), w2, wrap64_id (x := h % m) (by omega) (by omega), wrap64_id (x := (j : Int) + 1) (by omega) (by omega), show ((j : Int) + 1) = ((j + 1 : Nat) : Int) by omega]
    have h2 : 0 ≤ IntKind.u64.wrap (h + s) ∧ IntKind.u64.wrap (h + s) < 18446744073709551616 := by rw [wu64]; omega
    rw [ref_Places_l0 m s hm hm2 p hp d (j + 1) _ (acc ++ [h % m]) (by omega) (by simp [ha]) h2.1 h2.2 k (by omega), blPlaces, List.append_assoc]
    rfl
theorem ref_Places_ev (a : ByteArray) (hs : a.size ≤ 140737488351232) (m : Int) (hm : 0 < m) (hm2 : m ≤ 65536) (p : Int) (hp0 : 0 ≤ p) (hp : p ≤ 16) : Ev (fun k => lienref11_Places.f k a m p) (keyPlaces m p a) := by
  obtain ⟨r0, r1⟩ := hashOf_range a
  obtain ⟨n, rfl⟩ : ∃ n : Nat, p = (n : Int) := ⟨p.toNat, by omega⟩
  have key : ∀ s, Ev (fun k => lienref11_Places.j0 k m (n : Int) (hashOf a) s) (blPlaces m s n (hashOf a)) := fun s => ⟨n + 2, fun k hk => by
    obtain ⟨k, rfl⟩ : ∃ m, k = m + 1 := ⟨k - 1, by omega⟩
    show lienref11_Places.j0 (k + 1) m (n : Int) (hashOf a) s = _
    rw [lienref11_Places.j0]
    exact ref_Places_l0 m s hm hm2 n (by omega) n 0 (hashOf a) [] (by omega) rfl r0 r1 k (by omega)⟩
  unfold lienref11_Places.f
  refine Ev.bind (ref_Hash_ev a hs) ?_
  unfold keyPlaces bl_step
  by_cases c : hashOf a / 8589934592 = 0
  · simp only [if_pos c, Int.toNat_natCast]; exact key 1
  · simp only [if_neg c, Int.toNat_natCast]; exact key _

theorem Is_eq (l : List Int) (hl : l.length ≤ 140737488351232) : lienref11_Is.f l = some (bl_is l) := by
  unfold lienref11_Is.f
  have key : ∀ b : Bool, (bl_is l = true ↔ b = true) → some b = some (bl_is l) := fun b h => by cases b <;> cases e : bl_is l <;> simp_all
  by_cases c0 : (l.length : Int) > 0
  · rw [if_pos c0, if_pos (by omega), wrap64_id (x := (l.length : Int) - 1) (by omega) (by omega), wrap64_id (x := 8 * ((l.length : Int) - 1)) (by omega) (by omega)]
    by_cases c1 : rd l 0 ≥ 1
    · rw [if_pos c1]
      by_cases c2 : rd l 0 ≤ 16
      · rw [if_pos c2]
        by_cases c3 : 8 * ((l.length : Int) - 1) ≥ 64
        · rw [if_pos c3]
          refine key _ (bl_is_iff.trans ?_)
          rw [decide_eq_true_eq]
          omega
        · rw [if_neg c3]
          refine key _ (bl_is_iff.trans ?_)
          simp only [Bool.false_eq_true, iff_false]
          omega
      · rw [if_neg c2]
        refine key _ (bl_is_iff.trans ?_)
        simp only [Bool.false_eq_true, iff_false]
        omega
    · rw [if_neg c1]
      refine key _ (bl_is_iff.trans ?_)
      simp only [Bool.false_eq_true, iff_false]
      omega
  · rw [if_neg c0]
    refine key _ (bl_is_iff.trans ?_)
    simp only [Bool.false_eq_true, iff_false]
    omega
theorem ref_Count_l1 (l : List Int) (hb : Byt l) (j : Nat) (hj : j < l.length) (hl : l.length ≤ 8193) : ∀ (d i : Nat) (a : Int), i + d = 8 → ∀ k, lienref11_Count.l1 (k + d + 1) l a (j : Int) (i : Int) = lienref11_Count.l0 k l (bl_cnt8 (rd l (j : Int)) d i a) ((j + 1 : Nat) : Int)
  | 0, i, a, hi, k => by
    rw [lienref11_Count.l1, if_neg (by omega), wrap64_id (by omega) (by omega)]
    rfl
  | d + 1, i, a, hi, k => by
    rw [show k + (d + 1) + 1 = (k + d + 1) + 1 by omega, lienref11_Count.l1, if_pos (by omega), if_pos (by omega), if_pos (by omega), wraps_u64 (i : Int) (by omega) (by omega), if_pos (by omega), ← and_one (hb.rd _) (show i < 8 by omega), wrap64_id (x := (i : Int) + 1) (by omega) (by omega), show ((i : Int) + 1) = ((i + 1 : Nat) : Int) by omega, ref_Count_l1 l hb j hj hl d (i + 1) _ (by omega) k]
    rfl
theorem ref_Count_l0 (l : List Int) (hb : Byt l) (h9 : 9 ≤ l.length) (hl : l.length ≤ 8193) : ∀ (d j : Nat) (a : Int), j + d = l.length → Ev (fun k => lienref11_Count.l0 k l a (j : Int)) (bl_cntAll (l.drop j) a, 8 * ((l.length - 1 : Nat) : Int), 0)
  | 0, j, a, hj => by
    refine Ev.step (fun k => by rw [lienref11_Count.l0]) ?_
    simp only [if_neg (show ¬ (j : Int) < (l.length : Int) by omega)]
    rw [List.drop_eq_nil_of_le (by omega), wrap64_id (x := (l.length : Int) - 1) (by omega) (by omega), wrap64_id (by omega) (by omega), show 8 * ((l.length : Int) - 1) = 8 * ((l.length - 1 : Nat) : Int) by omega]
    exact Ev.now _
  | d + 1, j, a, hj => by
    have hlt : j < l.length := by omega
    obtain ⟨K, hK⟩ := ref_Count_l0 l hb h9 hl d (j + 1) (bl_cnt8 (rd l (j : Int)) 8 0 a) (by omega)
    refine Ev.step (fun k => by rw [lienref11_Count.l0]) ?_
    simp only [if_pos (show (j : Int) < (l.length : Int) by omega)]
    refine ⟨K + 9, fun k hk => ?_⟩
    obtain ⟨k', rfl⟩ : ∃ k', k = k' + 8 + 1 := ⟨k - 9, by omega⟩
    refine (ref_Count_l1 l hb j hlt hl 8 0 a (by omega) k').trans ((hK k' (by omega)).trans ?_)
    rw [rd_drop hlt]
    rfl
theorem count_both (l : List Int) (hb : Byt l) (hl : l.length ≤ 140737488351232) : ∃ r, bloom_Count.f l = some r ∧ Ev (fun k => lienref11_Count.f k l) r := by
  refine ⟨_, rfl, ?_⟩
  unfold lienref11_Count.f
  simp only [Is_eq l hl, Option.bind_some]
  cases hi : bl_is l with
  | false =>
    simp only [Bool.false_eq_true, if_false]
    exact Ev.now _
  | true =>
    simp only [if_true]
    obtain ⟨h1, h2, h3, h4⟩ := bl_is_iff.1 hi
    exact ref_Count_l0 l hb h1 h2 (l.length - 1) 1 0 (by omega)
theorem ref_Has_l0 (l : List Int) (hb : Byt l) (h9 : 9 ≤ l.length) (hl : l.length ≤ 8193) (ps : List Int) (hps : ∀ q ∈ ps, 0 ≤ q ∧ q < 8 * ((l.length - 1 : Nat) : Int)) (hpl : ps.length ≤ 16) : ∀ (d j : Nat), j + d = ps.length → ∀ k, d + 1 ≤ k → lienref11_Has.l0 k l ps (j : Int) = some ((ps.drop j).all fun q => Go.bits .and .u8 (rd (l.drop 1) (q / 8)) (2 ^ (q % 8).toNat % 256) != 0)
  | 0, j, hj, k, hk => by
    obtain ⟨k, rfl⟩ : ∃ m, k = m + 1 := ⟨k - 1, by omega⟩
    rw [lienref11_Has.l0, if_neg (by omega), List.drop_eq_nil_of_le (by omega)]
    rfl
  | d + 1, j, hj, k, hk => by
    obtain ⟨k, rfl⟩ : ∃ m, k = m + 1 := ⟨k - 1, by omega⟩
    have hlt : j < ps.length := by omega
    obtain ⟨q0, q1⟩ := hps ps[j] (List.getElem_mem hlt)
    have er : rd ps (j : Int) = ps[j] := by rw [rd_nat]; simp [List.getD_eq_getElem?_getD, hlt]
    rw [List.drop_eq_getElem_cons hlt, List.all_cons]
    generalize ps[j] = q at q0 q1 er
    have w1 : Int.tdiv q 8 = q / 8 := Int.tdiv_eq_ediv_of_nonneg q0
    have w2 : Int.tmod q 8 = q % 8 := Int.tmod_eq_emod_of_nonneg q0
    have w3 : IntKind.u64.wrap (q % 8) = q % 8 := wraps_u64 _ (by omega) (by omega)
    have w4 : wrap64 (q / 8) = q / 8 := wrap64_id (by omega) (by omega)
    have w5 : wrap64 (1 + q / 8) = 1 + q / 8 := wrap64_id (by omega) (by omega)
    have er2 : rd (l.drop 1) (q / 8) = rd l (1 + q / 8) := by
      unfold PrintWords.rd
      rw [List.getD_eq_getElem?_getD, List.getD_eq_getElem?_getD, List.getElem?_drop, show 1 + (q / 8).toNat = (1 + q / 8).toNat by omega]
    have am := and_mask (hb.rd (1 + q / 8)) (show (q % 8).toNat < 8 by omega)
    rw [show (((q % 8).toNat : Nat) : Int) = q % 8 by omega] at am
    rw [lienref11_Has.l0, if_pos (by omega), if_pos (by omega), er, w1, w2, w3, w4, w5, if_pos (by omega), if_pos (by omega), if_pos (by omega), er2, am]
    by_cases c : Int.tmod (shr .u8 (rd l (1 + q / 8)) (q % 8)) 2 = 0
    · rw [if_pos c, beq_iff_eq.2 c]
      rfl
    · rw [if_neg c, beq_eq_false_iff_ne.2 c, wrap64_id (by omega) (by omega), show ((j : Int) + 1) = ((j + 1 : Nat) : Int) by omega, ref_Has_l0 l hb h9 hl ps hps hpl d (j + 1) (by omega) k (by omega)]
      rfl
theorem has_places (m s : Int) (l : List Int) : ∀ (n : Nat) (h : Int), bl_has m s l n h = (blPlaces m s n h).all fun q => Go.bits .and .u8 (rd l (q / 8)) (2 ^ (q % 8).toNat % 256) != 0
  | 0, _ => rfl
  | n + 1, h => by
    rw [bl_has, blPlaces, List.all_cons, has_places m s l n]
    cases (Go.bits .and .u8 (rd l (h % m / 8)) (2 ^ (h % m % 8).toNat % 256) != 0) <;> simp
theorem has_both (l : List Int) (hb : Byt l) (hl : l.length ≤ 140737488351232) (a : ByteArray) (ha : a.size ≤ 140737488351232) : ∃ r, bloom_Has.f l a = some r ∧ Ev (fun k => lienref11_Has.f k l a) r := by
  unfold bloom_Has.f lienref11_Has.f
  simp only [Is_eq l hl, Option.bind_some]
  cases hi : bl_is l with
  | false =>
    simp only [Bool.false_eq_true, if_false]
    exact ⟨false, rfl, Ev.now _⟩
  | true =>
    simp only [if_true]
    obtain ⟨h1, h2, h3, h4⟩ := bl_is_iff.1 hi
    rw [bloom_Hash_at a ha _ (Nat.le_refl _), Option.bind_some, if_pos (hashOf_range a).1]
    refine ⟨_, rfl, ?_⟩
    rw [wrap64_id (x := (l.length : Int) - 1) (by omega) (by omega), wrap64_id (x := 8 * ((l.length : Int) - 1)) (by omega) (by omega), wrap64_id (x := rd l 0) (by omega) (by omega), show 8 * ((l.length : Int) - 1) = 8 * ((l.length - 1 : Nat) : Int) by omega]
    simp only [if_pos (show (0 : Int) < (l.length : Int) by omega)]
    refine Ev.bind (ref_Places_ev a ha (8 * ((l.length - 1 : Nat) : Int)) (by omega) (by omega) (rd l 0) (by omega) (by omega)) ?_
    have hpl : (keyPlaces (8 * ((l.length - 1 : Nat) : Int)) (rd l 0) a).length = (rd l 0).toNat := places_len _ _ _ _
    refine ⟨(rd l 0).toNat + 1, fun k hk => ?_⟩
    have q := ref_Has_l0 l hb h1 h2 (keyPlaces (8 * ((l.length - 1 : Nat) : Int)) (rd l 0) a) (places_mem (by omega) _ _) (by omega) (rd l 0).toNat 0 (by omega) k hk
    rw [has_places]
    exact q

theorem BloomHas : lienlaw11_BloomHas.Pure := by
  intro l a _ hl hw ha
  have hb : Byt l := Byt.of_wf hw
  refine Ev.rounds ?_
  have key : ∀ l : List Int, Byt l → l.length ≤ 140737488351232 → ∃ n b, bloom_Count.f l = some n ∧ Ev (fun k => lienref11_Count.f k l) n ∧ bloom_Has.f l a = some b ∧ Ev (fun k => lienref11_Has.f k l a) b ∧ ∃ c d, bloom_Check.f l = some c ∧ lienref11_Is.f l = some d ∧ ((c == 0) == d) = true := fun l hb hl => by
    obtain ⟨n, n1, n2⟩ := count_both l hb hl
    obtain ⟨b, b1, b2⟩ := has_both l hb hl a ha
    refine ⟨n, b, n1, n2, b1, b2, _, _, rfl, Is_eq l hl, ?_⟩
    cases bl_is l <;> rfl
  have main : ∀ (l : List Int), Byt l → l.length ≤ 140737488351232 → ∀ (b0 : Bool), b0 = false → Ev (fun k => lienlaw11_BloomHas.j0 k l a b0) true := fun l hb hl b0 h0 => by
    subst h0
    obtain ⟨n, b, n1, n2, b1, b2, c, d, c1, d1, e⟩ := key l hb hl
    refine Ev.step (fun k => by rw [lienlaw11_BloomHas.j0]) ?_
    simp only [Bool.false_eq_true, if_false, n1, b1, c1, d1, Option.bind_some]
    refine Ev.bind n2 ?_
    refine Ev.bind b2 ?_
    simp only [beq_self_eq_true, if_true, if_pos e]
    exact Ev.bind awake11 (Ev.now true)
  unfold lienlaw11_BloomHas.f
  by_cases c : (l.length : Int) > 300
  · simp only [if_pos c]
    by_cases c2 : (l.length : Int) ≤ 8193
    · simp only [decide_eq_true c2]
      obtain ⟨n, b, n1, n2, b1, b2, c', d, c1, d1, e⟩ := key (l.take 300) (hb.take 300) (by rw [List.length_take]; omega)
      refine Ev.step (fun k => by rw [lienlaw11_BloomHas.j0]) ?_
      simp only [if_true, if_pos (show (300 : Int) ≤ (l.length : Int) by omega), n1, b1, c1, d1, Option.bind_some]
      refine Ev.bind n2 ?_
      refine Ev.bind b2 ?_
      simp only [beq_self_eq_true, if_true, if_pos e]
      exact Ev.bind awake11 (Ev.now true)
    · exact main l hb (by omega) _ (decide_eq_false c2)
  · simp only [if_neg c]
    exact main l hb (by omega) false rfl

end Go.Proofs.Ytlehgphnjpgjnaa.Pure
