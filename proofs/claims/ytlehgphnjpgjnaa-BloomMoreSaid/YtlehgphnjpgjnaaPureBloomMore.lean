/- Written for the statement BloomMore over the program's printed functions: numbers and lists alone. -/
import Derived.Test.YtlehgphnjpgjnaaPBloomMorex
set_option linter.unusedVariables false
set_option linter.unusedSimpArgs false
namespace Go.Proofs.Ytlehgphnjpgjnaa.Pure
open Go.RowKit Go.Proofs.Ytlehgphnjpgjnaa.PBloomMore Go.Proofs.YtlehgphnjpgjnaaW Go.Proofs.YtlehgphnjpgjnaaW.PrintWords Go.Proofs.YtlehgphnjpgjnaaW.PrintLast Go.Proofs.YtlehgphnjpgjnaaW.PrintMore

theorem wrap64_id {x : Int} (h0 : -9223372036854775808 ≤ x) (h1 : x ≤ 9223372036854775807) : wrap64 x = x := by unfold wrap64; omega
theorem wu64 (n : Int) : IntKind.u64.wrap n = n % 18446744073709551616 := by simp [IntKind.wrap, IntKind.bits, IntKind.signed]
theorem wraps_u64 (n : Int) (h0 : 0 ≤ n) (h1 : n < 2 ^ 64) : IntKind.u64.wrap n = n := by rw [wu64]; omega
theorem u64_and127 {x : Int} (h0 : 0 ≤ x) (h1 : x < 18446744073709551616) : Go.bits .and .u64 x 127 = x % 128 := Go.bits_mask .u64 64 (by decide) wraps_u64 7 (by decide) x h0 h1
theorem u8_and127 {x : Int} (h0 : 0 ≤ x) (h1 : x < 256) : Go.bits .and .u8 x 127 = x % 128 := Go.bits_mask .u8 8 (by decide) Go.wraps_u8 7 (by decide) x h0 h1
theorem bits_comm_or (k : IntKind) (x y : Int) : Go.bits .or k x y = Go.bits .or k y x := by simp [Go.bits, BitVec.or_comm]
theorem u8_or_128 {x : Int} (h0 : 0 ≤ x) (h1 : x < 128) : Go.bits .or .u8 x 128 = x + 128 := by
  rw [bits_comm_or, Go.bits_join .u8 8 (by decide) Go.wraps_u8 7 128 x (by decide) (by decide) (by decide) h0 h1 (by omega)]; omega
theorem u64_join (i : Nat) {x y : Int} (hx0 : 0 ≤ x) (hx : x % 2 ^ i = 0) (hx1 : x < 18446744073709551616) (hy0 : 0 ≤ y) (hy : y < 2 ^ i) (hy1 : y < 18446744073709551616) : Go.bits .or .u64 x y = x + y :=
  Go.bits_join .u64 64 (by decide) wraps_u64 i x y hx0 hx hx1 hy0 hy hy1
theorem wf_u64 {x : Int} (h : (Lit.int .u64 x).wf = true) : 0 ≤ x ∧ x < 18446744073709551616 := by
  simp [Lit.wf, IntKind.min, IntKind.max, IntKind.bits, IntKind.signed] at h; omega
theorem wf_u8 {x : Int} (h : (Lit.int .u8 x).wf = true) : 0 ≤ x ∧ x < 256 := by
  simp [Lit.wf, IntKind.min, IntKind.max, IntKind.bits, IntKind.signed] at h; omega
theorem wf_i64 {x : Int} (h : (Lit.int .i64 x).wf = true) : -9223372036854775808 ≤ x ∧ x ≤ 9223372036854775807 := by
  simp [Lit.wf, IntKind.min, IntKind.max, IntKind.bits, IntKind.signed] at h; omega
def Byt (l : List Int) : Prop := ∀ x ∈ l, 0 ≤ x ∧ x < 256
theorem Byt.of_wf {l : List Int} (h : ∀ x ∈ l, (Lit.int .u8 x).wf = true) : Byt l := fun x hx => wf_u8 (h x hx)
theorem Byt.rd {l : List Int} (h : Byt l) (i : Int) : 0 ≤ rd l i ∧ rd l i < 256 := by
  unfold PrintWords.rd
  rw [List.getD_eq_getElem?_getD]
  cases e : l[i.toNat]? with
  | none => simp
  | some x => exact h x (List.mem_of_getElem? e)
theorem Byt.take {l : List Int} (h : Byt l) (n : Nat) : Byt (l.take n) := fun x hx => h x (List.mem_of_mem_take hx)
theorem Byt.drop {l : List Int} (h : Byt l) (n : Nat) : Byt (l.drop n) := fun x hx => h x (List.mem_of_mem_drop hx)
theorem rd_nat (l : List Int) (i : Nat) : rd l (i : Int) = l.getD i 0 := by unfold PrintWords.rd; simp
theorem rd_drop {l : List Int} {i : Nat} (h : i < l.length) : l.drop i = rd l (i : Int) :: l.drop (i + 1) := by
  rw [rd_nat, List.drop_eq_getElem_cons h]; simp [List.getD_eq_getElem?_getD, List.getElem?_eq_getElem h]

theorem bits_u64_range (op : BinOp) (x y : Int) : 0 ≤ Go.bits op .u64 x y ∧ Go.bits op .u64 x y < 18446744073709551616 := by
  unfold Go.bits
  rw [wu64]
  omega
def hashEnd (h : Int) : Int := Go.bits .xor .u64 (IntKind.u64.wrap ((Go.bits .xor .u64 h (h / 2147483648)) * 10723151780598845931)) ((IntKind.u64.wrap ((Go.bits .xor .u64 h (h / 2147483648)) * 10723151780598845931)) / 536870912)
def hashGo (a : ByteArray) : Nat → Nat → Int → Int
  | 0, _, h => hashEnd h
  | d + 1, i, h => hashGo a d (i + 1) (IntKind.u64.wrap ((Go.bits .xor .u64 h (IntKind.u64.wrap (bt a (i : Int)))) * 13787848793156543929))
def hashOf (a : ByteArray) : Int := hashGo a a.size 0 11400714819323198485
theorem hashGo_range (a : ByteArray) : ∀ (d i : Nat) (h : Int), 0 ≤ hashGo a d i h ∧ hashGo a d i h < 18446744073709551616
  | 0, _, _ => by unfold hashGo hashEnd; exact bits_u64_range _ _ _
  | d + 1, i, h => hashGo_range a d (i + 1) _
theorem hashOf_range (a : ByteArray) : 0 ≤ hashOf a ∧ hashOf a < 18446744073709551616 := hashGo_range a _ _ _
theorem bloom_Hash_l0 (a : ByteArray) (hs : a.size ≤ 140737488351232) : ∀ (d i k : Nat) (h : Int), i + d = a.size → d + 1 ≤ k → bloom_Hash.l0 k a h (a.size : Int) (i : Int) = some (hashGo a d i h)
  | 0, i, k, h, hi, hk => by
    obtain ⟨k, rfl⟩ : ∃ m, k = m + 1 := ⟨k - 1, by omega⟩
    rw [bloom_Hash.l0, if_neg (by omega)]
    rfl
  | d + 1, i, k, h, hi, hk => by
    obtain ⟨k, rfl⟩ : ∃ m, k = m + 1 := ⟨k - 1, by omega⟩
    rw [bloom_Hash.l0, if_pos (by omega), if_pos (by omega), if_pos (by omega), wrap64_id (by omega) (by omega), show ((i : Int) + 1) = ((i + 1 : Nat) : Int) by omega]
    exact bloom_Hash_l0 a hs d (i + 1) k _ (by omega) (by omega)
theorem bloom_Hash_at (a : ByteArray) (hs : a.size ≤ 140737488351232) (k : Nat) (hk : a.size + 1 ≤ k) : bloom_Hash.f k a = some (hashOf a) := bloom_Hash_l0 a hs a.size 0 k _ (by omega) hk
def keyMarks (m p : Int) (ks : List ByteArray) (xs : List Int) : List Int := ks.foldl (fun xs a => bl_marks m (bl_step (hashOf a)) p.toNat (hashOf a) xs) xs
theorem keys_some (m p : Int) : ∀ (ks : List ByteArray) (xs : List Int), (∀ a ∈ ks, a.size ≤ 140737488351232) → bl_keys m p ks xs = some (keyMarks m p ks xs)
  | [], xs, _ => rfl
  | a :: ks, xs, h => by
    rw [bl_keys, bloom_Hash_at a (h a (List.mem_cons_self ..)) _ (Nat.le_refl _), Option.bind_some, if_pos (hashOf_range a).1]
    exact keys_some m p ks _ (fun b hb => h b (List.mem_cons_of_mem _ hb))
theorem mark_len (xs : List Int) (p : Int) : (bl_mark xs p).length = xs.length := by unfold bl_mark; exact List.length_set ..
theorem marks_len (m s : Int) : ∀ (n : Nat) (h : Int) (xs : List Int), (bl_marks m s n h xs).length = xs.length
  | 0, _, _ => rfl
  | n + 1, h, xs => by rw [bl_marks, marks_len m s n, mark_len]
theorem keyMarks_len (m p : Int) : ∀ (ks : List ByteArray) (xs : List Int), (keyMarks m p ks xs).length = xs.length
  | [], _ => rfl
  | a :: ks, xs => by
    show (keyMarks m p ks _).length = _
    rw [keyMarks_len m p ks, marks_len]
theorem nb_bounds (n : Nat) (b : Int) (hn : n ≤ 4096) (h1 : 1 ≤ b) (h2 : b ≤ 16) : 8 ≤ bl_nb n b ∧ bl_nb n b ≤ 8192 ∧ mx 64 (((n : Int) * b + 7) / 8 * 8) = 8 * (bl_nb n b : Int) := by
  have hp0 : 0 ≤ (n : Int) * b := Int.mul_nonneg (by omega) (by omega)
  have hp1 : (n : Int) * b ≤ 65536 := Int.le_trans (Int.mul_le_mul (show (n : Int) ≤ 4096 by omega) (show b ≤ 16 by omega) (by omega) (by omega)) (by decide)
  unfold bl_nb mx
  split <;> omega
theorem pr_bounds (b : Int) (h1 : 1 ≤ b) (h2 : b ≤ 16) : 1 ≤ bl_pr b ∧ bl_pr b ≤ 11 := by
  unfold bl_pr mx
  split <;> omega
def makeOf (ks : List ByteArray) (b : Int) : List Int := keyMarks (8 * (bl_nb ks.length b : Int)) (bl_pr b) ks ((List.replicate (bl_nb ks.length b + 1) 0).set 0 (bl_pr b))
theorem Make_some (ks : List ByteArray) (b : Int) (hn : ks.length ≤ 4096) (h1 : 1 ≤ b) (h2 : b ≤ 16) (hs : ∀ a ∈ ks, a.size ≤ 140737488351232) : bloom_Make.f ks b = some (makeOf ks b, 0) := by
  unfold bloom_Make.f
  rw [if_neg (by omega), if_neg (by omega), if_neg (by omega), keys_some _ _ _ _ hs]
  rfl
theorem makeOf_len (ks : List ByteArray) (b : Int) : (makeOf ks b).length = bl_nb ks.length b + 1 := by
  unfold makeOf
  rw [keyMarks_len, List.length_set, List.length_replicate]

theorem awake11o : lienlaw11_awake.f = some true := by kernel_rfl
theorem awake11 : Ev (fun _ => lienlaw11_awake.f) true := by rw [awake11o]; exact Ev.now true

theorem u8_or_nat {x y : Int} (hx0 : 0 ≤ x) (hx1 : x < 256) (hy0 : 0 ≤ y) (hy1 : y < 256) : Go.bits .or .u8 x y = ((x.toNat ||| y.toNat : Nat) : Int) := by
  obtain ⟨a, rfl⟩ : ∃ a : Nat, x = (a : Int) := ⟨x.toNat, by omega⟩
  obtain ⟨b, rfl⟩ : ∃ b : Nat, y = (b : Int) := ⟨y.toNat, by omega⟩
  have ha : a < 2 ^ 8 := by omega
  have hb : b < 2 ^ 8 := by omega
  have hlt : a ||| b < 2 ^ 8 := Nat.or_lt_two_pow ha hb
  have e : (BitVec.ofInt 8 (a : Int) ||| BitVec.ofInt 8 (b : Int)).toNat = a ||| b := by
    rw [BitVec.toNat_or, BitVec.toNat_ofInt, BitVec.toNat_ofInt]
    rw [show ((a : Int) % ((2 ^ 8 : Nat) : Int)).toNat = a by omega, show ((b : Int) % ((2 ^ 8 : Nat) : Int)).toNat = b by omega]
  show IntKind.u8.wrap ((BitVec.ofInt 8 (a : Int) ||| BitVec.ofInt 8 (b : Int)).toNat : Int) = _
  rw [e, Go.wraps_u8 _ (by omega) (by omega)]
  rfl
theorem u8_or_range {x y : Int} (hx0 : 0 ≤ x) (hx1 : x < 256) (hy0 : 0 ≤ y) (hy1 : y < 256) : 0 ≤ Go.bits .or .u8 x y ∧ Go.bits .or .u8 x y < 256 := by
  rw [u8_or_nat hx0 hx1 hy0 hy1]
  have : x.toNat ||| y.toNat < 2 ^ 8 := Nat.or_lt_two_pow (by omega) (by omega)
  omega
theorem u8_or_right_comm {x a b : Int} (hx : 0 ≤ x ∧ x < 256) (ha : 0 ≤ a ∧ a < 256) (hb : 0 ≤ b ∧ b < 256) : Go.bits .or .u8 (Go.bits .or .u8 x a) b = Go.bits .or .u8 (Go.bits .or .u8 x b) a := by
  have h1 := u8_or_range hx.1 hx.2 ha.1 ha.2
  have h2 := u8_or_range hx.1 hx.2 hb.1 hb.2
  rw [u8_or_nat h1.1 h1.2 hb.1 hb.2, u8_or_nat h2.1 h2.2 ha.1 ha.2, u8_or_nat hx.1 hx.2 ha.1 ha.2, u8_or_nat hx.1 hx.2 hb.1 hb.2]
  simp only [Int.toNat_natCast]
  rw [Nat.or_assoc, Nat.or_comm a.toNat, ← Nat.or_assoc]
theorem u8_or_idem {x a : Int} (hx : 0 ≤ x ∧ x < 256) (ha : 0 ≤ a ∧ a < 256) : Go.bits .or .u8 (Go.bits .or .u8 x a) a = Go.bits .or .u8 x a := by
  have h1 := u8_or_range hx.1 hx.2 ha.1 ha.2
  rw [u8_or_nat h1.1 h1.2 ha.1 ha.2, u8_or_nat hx.1 hx.2 ha.1 ha.2]
  simp only [Int.toNat_natCast]
  rw [Nat.or_assoc, Nat.or_self]
theorem mask_range (q : Int) : 0 ≤ (2 : Int) ^ (q % 8).toNat % 256 ∧ (2 : Int) ^ (q % 8).toNat % 256 < 256 := by omega
theorem rd_set_self {xs : List Int} {i : Int} {v : Int} (h : i.toNat < xs.length) : rd (xs.set i.toNat v) i = v := by
  unfold PrintWords.rd
  rw [List.getD_eq_getElem?_getD, List.getElem?_set_self h]
  rfl
theorem rd_set_ne {xs : List Int} {i j : Int} {v : Int} (h : i.toNat ≠ j.toNat) : rd (xs.set i.toNat v) j = rd xs j := by
  unfold PrintWords.rd
  rw [List.getD_eq_getElem?_getD, List.getD_eq_getElem?_getD, List.getElem?_set_ne h]
theorem Byt.set {l : List Int} (h : Byt l) (i : Nat) {v : Int} (hv : 0 ≤ v ∧ v < 256) : Byt (l.set i v) := fun x hx => by
  rcases List.mem_or_eq_of_mem_set hx with h1 | h1
  · exact h x h1
  · rw [h1]; exact hv
theorem mark_byt {xs : List Int} (h : Byt xs) (p : Int) : Byt (bl_mark xs p) := h.set _ (u8_or_range (h.rd _).1 (h.rd _).2 (mask_range p).1 (mask_range p).2)
theorem mark_comm {xs : List Int} (h : Byt xs) (p q : Int) : bl_mark (bl_mark xs p) q = bl_mark (bl_mark xs q) p := by
  unfold bl_mark
  by_cases e : (1 + p / 8).toNat = (1 + q / 8).toNat
  · by_cases hl : (1 + p / 8).toNat < xs.length
    · have a1 : rd (xs.set (1 + p / 8).toNat (Go.bits .or .u8 (rd xs (1 + p / 8)) (2 ^ (p % 8).toNat % 256))) (1 + q / 8) = Go.bits .or .u8 (rd xs (1 + p / 8)) (2 ^ (p % 8).toNat % 256) := by
        rw [e]; exact rd_set_self (by omega)
      have a2 : rd (xs.set (1 + q / 8).toNat (Go.bits .or .u8 (rd xs (1 + q / 8)) (2 ^ (q % 8).toNat % 256))) (1 + p / 8) = Go.bits .or .u8 (rd xs (1 + q / 8)) (2 ^ (q % 8).toNat % 256) := by
        rw [← e]; exact rd_set_self (by omega)
      have a3 : rd xs (1 + q / 8) = rd xs (1 + p / 8) := by unfold PrintWords.rd; rw [e]
      rw [a1, a2, a3, ← e, List.set_set, List.set_set, u8_or_right_comm (h.rd _) (mask_range p) (mask_range q)]
    · have s1 : ∀ v, xs.set (1 + p / 8).toNat v = xs := fun v => List.set_eq_of_length_le (by omega)
      have s2 : ∀ v, xs.set (1 + q / 8).toNat v = xs := fun v => List.set_eq_of_length_le (by omega)
      simp only [s1, s2]
  · rw [rd_set_ne e, rd_set_ne (fun h => e h.symm), List.set_comm _ _ e]
theorem mark_idem {xs : List Int} (h : Byt xs) (p : Int) : bl_mark (bl_mark xs p) p = bl_mark xs p := by
  unfold bl_mark
  by_cases hl : (1 + p / 8).toNat < xs.length
  · rw [rd_set_self hl, List.set_set, u8_or_idem (h.rd _) (mask_range p)]
  · have s1 : ∀ v, xs.set (1 + p / 8).toNat v = xs := fun v => List.set_eq_of_length_le (by omega)
    rw [s1, s1]
def blPlaces (m s : Int) : Nat → Int → List Int
  | 0, _ => []
  | n + 1, h => (h % m) :: blPlaces m s n (IntKind.u64.wrap (h + s))
theorem marks_places (m s : Int) : ∀ (n : Nat) (h : Int) (xs : List Int), bl_marks m s n h xs = (blPlaces m s n h).foldl bl_mark xs
  | 0, _, _ => rfl
  | n + 1, h, xs => by rw [bl_marks, marks_places m s n]; rfl
def keyPlaces (m p : Int) (a : ByteArray) : List Int := blPlaces m (bl_step (hashOf a)) p.toNat (hashOf a)
theorem keyMarks_places (m p : Int) : ∀ (ks : List ByteArray) (xs : List Int), keyMarks m p ks xs = (ks.flatMap (keyPlaces m p)).foldl bl_mark xs
  | [], _ => rfl
  | a :: ks, xs => by
    show keyMarks m p ks (bl_marks m (bl_step (hashOf a)) p.toNat (hashOf a) xs) = _
    rw [keyMarks_places m p ks, List.flatMap_cons, List.foldl_append, marks_places]
    rfl
theorem fold_byt : ∀ (L : List Int) {xs : List Int}, Byt xs → Byt (L.foldl bl_mark xs)
  | [], _, h => h
  | p :: L, _, h => fold_byt L (mark_byt h p)
theorem fold_mark : ∀ (L : List Int) {xs : List Int} (_ : Byt xs) (p : Int), L.foldl bl_mark (bl_mark xs p) = bl_mark (L.foldl bl_mark xs) p
  | [], _, _, _ => rfl
  | q :: L, xs, h, p => by
    show L.foldl bl_mark (bl_mark (bl_mark xs p) q) = bl_mark (L.foldl bl_mark (bl_mark xs q)) p
    rw [mark_comm h, fold_mark L (mark_byt h q) p]
theorem fold_absorb : ∀ (L : List Int) {xs : List Int} (_ : Byt xs) (p : Int), p ∈ L → bl_mark (L.foldl bl_mark xs) p = L.foldl bl_mark xs
  | q :: L, xs, h, p, hp => by
    show bl_mark (L.foldl bl_mark (bl_mark xs q)) p = L.foldl bl_mark (bl_mark xs q)
    rcases List.mem_cons.1 hp with rfl | hp
    · rw [← fold_mark L (mark_byt h p), mark_idem h]
    · exact fold_absorb L (mark_byt h q) p hp
theorem fold_within : ∀ (L' L : List Int) {xs : List Int} (_ : Byt xs), (∀ p ∈ L', p ∈ L) → L'.foldl bl_mark (L.foldl bl_mark xs) = L.foldl bl_mark xs
  | [], _, _, _, _ => rfl
  | p :: L', L, xs, h, hs => by
    show L'.foldl bl_mark (bl_mark (L.foldl bl_mark xs) p) = _
    rw [fold_absorb L h p (hs p (List.mem_cons_self ..))]
    exact fold_within L' L h (fun q hq => hs q (List.mem_cons_of_mem _ hq))
theorem fold_swap : ∀ (L' L : List Int) {xs : List Int} (_ : Byt xs), L'.foldl bl_mark (L.foldl bl_mark xs) = L.foldl bl_mark (L'.foldl bl_mark xs)
  | [], _, _, _ => rfl
  | p :: L', L, xs, h => by
    show L'.foldl bl_mark (bl_mark (L.foldl bl_mark xs) p) = L.foldl bl_mark (L'.foldl bl_mark (bl_mark xs p))
    rw [← fold_mark L h, fold_swap L' L (mark_byt h p)]
theorem fold_same (L L' : List Int) {xs : List Int} (h : Byt xs) (h1 : ∀ p ∈ L, p ∈ L') (h2 : ∀ p ∈ L', p ∈ L) : L.foldl bl_mark xs = L'.foldl bl_mark xs := by
  rw [← fold_within L' L h h2, fold_swap L' L h, fold_within L L' h h1]
theorem init_byt (n : Nat) (b : Int) (h1 : 1 ≤ b) (h2 : b ≤ 16) : Byt ((List.replicate n (0 : Int)).set 0 (bl_pr b)) := by
  have hp := pr_bounds b h1 h2
  refine Byt.set (fun x hx => ?_) _ (by omega)
  rw [List.eq_of_mem_replicate hx]
  omega
theorem makeOf_same (ks ls : List ByteArray) (b : Int) (h1 : 1 ≤ b) (h2 : b ≤ 16) (hl : ls.length = ks.length) (ha : ∀ a ∈ ks, a ∈ ls) (hb : ∀ a ∈ ls, a ∈ ks) : makeOf ks b = makeOf ls b := by
  unfold makeOf
  rw [hl, keyMarks_places, keyMarks_places]
  refine fold_same _ _ (init_byt _ b h1 h2) (fun p hp => ?_) (fun p hp => ?_)
  · obtain ⟨a, h1, h2⟩ := List.mem_flatMap.1 hp
    exact List.mem_flatMap.2 ⟨a, ha a h1, h2⟩
  · obtain ⟨a, h1, h2⟩ := List.mem_flatMap.1 hp
    exact List.mem_flatMap.2 ⟨a, hb a h1, h2⟩

theorem bitA : ((List.range 256).all fun x => (List.range 8).all fun i => Go.bits .and .u8 ((x : Int) / 2 ^ i) 1 == Int.tmod (shr .u8 (x : Int) (i : Int)) 2) = true := by kernel_rfl
theorem bitB : ((List.range 256).all fun x => (List.range 8).all fun i => (Go.bits .and .u8 (x : Int) (2 ^ i % 256) != 0) == !(Int.tmod (shr .u8 (x : Int) (i : Int)) 2 == 0)) = true := by kernel_rfl
theorem bitC : ((List.range 256).all fun x => (List.range 8).all fun i => !(Go.bits .or .u8 (x : Int) (2 ^ i % 256) == (x : Int)) || (Go.bits .and .u8 (x : Int) (2 ^ i % 256) != 0)) = true := by kernel_rfl
theorem bitD : ((List.range 256).all fun x => (List.range 8).all fun i => decide (bl_cnt8 (Go.bits .or .u8 (x : Int) (2 ^ i % 256)) 8 0 0 ≤ bl_cnt8 (x : Int) 8 0 0 + 1)) = true := by kernel_rfl
theorem bitE : ((List.range 256).all fun x => decide (0 ≤ bl_cnt8 (x : Int) 8 0 0 ∧ bl_cnt8 (x : Int) 8 0 0 ≤ 8)) = true := by kernel_rfl
theorem of_all {P : Nat → Nat → Bool} (h : ((List.range 256).all fun x => (List.range 8).all fun i => P x i) = true) {x i : Nat} (hx : x < 256) (hi : i < 8) : P x i = true :=
  List.all_eq_true.1 (List.all_eq_true.1 h x (List.mem_range.2 hx)) i (List.mem_range.2 hi)
theorem nat_of {x n : Int} (h : 0 ≤ x ∧ x < n) : ∃ a : Nat, x = (a : Int) ∧ (a : Int) < n := ⟨x.toNat, by omega, by omega⟩
theorem and_one {x : Int} (hx : 0 ≤ x ∧ x < 256) {i : Nat} (hi : i < 8) : Go.bits .and .u8 (x / 2 ^ i) 1 = Int.tmod (shr .u8 x (i : Int)) 2 := by
  obtain ⟨a, rfl, h⟩ := nat_of hx
  exact beq_iff_eq.1 (of_all bitA (by omega) hi)
theorem and_mask {x : Int} (hx : 0 ≤ x ∧ x < 256) {i : Nat} (hi : i < 8) : (Go.bits .and .u8 x (2 ^ i % 256) != 0) = !(Int.tmod (shr .u8 x (i : Int)) 2 == 0) := by
  obtain ⟨a, rfl, h⟩ := nat_of hx
  exact beq_iff_eq.1 (of_all bitB (by omega) hi)
theorem or_and {x : Int} (hx : 0 ≤ x ∧ x < 256) {i : Nat} (hi : i < 8) (h : Go.bits .or .u8 x (2 ^ i % 256) = x) : (Go.bits .and .u8 x (2 ^ i % 256) != 0) = true := by
  obtain ⟨a, rfl, h'⟩ := nat_of hx
  have q := of_all bitC (show a < 256 by omega) hi
  simpa [h] using q
theorem pop_or {x : Int} (hx : 0 ≤ x ∧ x < 256) {i : Nat} (hi : i < 8) : bl_cnt8 (Go.bits .or .u8 x (2 ^ i % 256)) 8 0 0 ≤ bl_cnt8 x 8 0 0 + 1 := by
  obtain ⟨a, rfl, h⟩ := nat_of hx
  exact of_decide_eq_true (of_all bitD (show a < 256 by omega) hi)
theorem pop_range {x : Int} (hx : 0 ≤ x ∧ x < 256) : 0 ≤ bl_cnt8 x 8 0 0 ∧ bl_cnt8 x 8 0 0 ≤ 8 := by
  obtain ⟨a, rfl, h⟩ := nat_of hx
  exact of_decide_eq_true (List.all_eq_true.1 bitE a (List.mem_range.2 (by omega)))

theorem places_mem {m s : Int} (hm : 0 < m) : ∀ (n : Nat) (h : Int), ∀ q ∈ blPlaces m s n h, 0 ≤ q ∧ q < m
  | 0, _, q, hq => by cases hq
  | n + 1, h, q, hq => by
    rcases List.mem_cons.1 hq with rfl | hq
    · exact ⟨Int.emod_nonneg _ (by omega), Int.emod_lt_of_pos _ hm⟩
    · exact places_mem hm n _ q hq
theorem places_len (m s : Int) : ∀ (n : Nat) (h : Int), (blPlaces m s n h).length = n
  | 0, _ => rfl
  | n + 1, h => by rw [blPlaces, List.length_cons, places_len m s n]

theorem has_places (m s : Int) (l : List Int) : ∀ (n : Nat) (h : Int), bl_has m s l n h = (blPlaces m s n h).all fun q => Go.bits .and .u8 (rd l (q / 8)) (2 ^ (q % 8).toNat % 256) != 0
  | 0, _ => rfl
  | n + 1, h => by
    rw [bl_has, blPlaces, List.all_cons, has_places m s l n]
    cases (Go.bits .and .u8 (rd l (h % m / 8)) (2 ^ (h % m % 8).toNat % 256) != 0) <;> simp

theorem u8_and_nat {x y : Int} (hx0 : 0 ≤ x) (hx1 : x < 256) (hy0 : 0 ≤ y) (hy1 : y < 256) : Go.bits .and .u8 x y = ((x.toNat &&& y.toNat : Nat) : Int) := by
  obtain ⟨a, rfl⟩ : ∃ a : Nat, x = (a : Int) := ⟨x.toNat, by omega⟩
  obtain ⟨b, rfl⟩ : ∃ b : Nat, y = (b : Int) := ⟨y.toNat, by omega⟩
  have hlt : a &&& b < 2 ^ 8 := Nat.lt_of_le_of_lt Nat.and_le_left (by omega)
  have e : (BitVec.ofInt 8 (a : Int) &&& BitVec.ofInt 8 (b : Int)).toNat = a &&& b := by
    rw [BitVec.toNat_and, BitVec.toNat_ofInt, BitVec.toNat_ofInt]
    rw [show ((a : Int) % ((2 ^ 8 : Nat) : Int)).toNat = a by omega, show ((b : Int) % ((2 ^ 8 : Nat) : Int)).toNat = b by omega]
  show IntKind.u8.wrap ((BitVec.ofInt 8 (a : Int) &&& BitVec.ofInt 8 (b : Int)).toNat : Int) = _
  rw [e, Go.wraps_u8 _ (by omega) (by omega)]
  rfl
theorem and_or_left {x y m : Int} (hx : 0 ≤ x ∧ x < 256) (hy : 0 ≤ y ∧ y < 256) (hm : 0 ≤ m ∧ m < 256) (h : (Go.bits .and .u8 x m != 0) = true) : (Go.bits .and .u8 (Go.bits .or .u8 x y) m != 0) = true := by
  have ho := u8_or_range hx.1 hx.2 hy.1 hy.2
  rw [u8_and_nat hx.1 hx.2 hm.1 hm.2] at h
  rw [u8_and_nat ho.1 ho.2 hm.1 hm.2, u8_or_nat hx.1 hx.2 hy.1 hy.2, Int.toNat_natCast, Nat.and_or_distrib_right]
  rw [bne_iff_ne] at h ⊢
  intro q
  refine h ?_
  have : (x.toNat &&& m.toNat) ||| (y.toNat &&& m.toNat) = 0 := by omega
  rw [(Nat.or_eq_zero_iff.1 this).1]
  rfl
def Wider (f g : List Int) : Prop := g.length = f.length ∧ rd g 0 = rd f 0 ∧ ∀ (i : Int) (m : Int), 0 ≤ m ∧ m < 256 → (Go.bits .and .u8 (rd f i) m != 0) = true → (Go.bits .and .u8 (rd g i) m != 0) = true
theorem Wider.refl (f : List Int) : Wider f f := ⟨rfl, rfl, fun _ _ _ h => h⟩
theorem Wider.step {f g more : List Int} (h : Wider f g) (hg : Byt g) (hm : Byt more) {i : Nat} (h1 : 1 ≤ i) (hl : i < g.length) : Wider f (g.set i (Go.bits .or .u8 (rd g (i : Int)) (rd more (i : Int)))) := by
  refine ⟨by rw [List.length_set]; exact h.1, ?_, fun j m hmm hb => ?_⟩
  · rw [← h.2.1]
    exact rd_set_ne (i := (i : Int)) (by omega)
  · by_cases c : (i : Int).toNat = j.toNat
    · have e1 : rd (g.set i (Go.bits .or .u8 (rd g (i : Int)) (rd more (i : Int)))) j = Go.bits .or .u8 (rd g (i : Int)) (rd more (i : Int)) := by
        have q := rd_set_self (xs := g) (i := (i : Int)) (v := Go.bits .or .u8 (rd g (i : Int)) (rd more (i : Int))) (by omega)
        unfold PrintWords.rd at q ⊢
        rw [c] at q
        rw [show i = j.toNat by omega]
        exact q
      rw [e1]
      have e2 : rd g (i : Int) = rd g j := by unfold PrintWords.rd; rw [c]
      rw [e2]
      exact and_or_left (hg.rd _) (hm.rd _) hmm (h.2.2 j m hmm hb)
    · have e1 : rd (g.set i (Go.bits .or .u8 (rd g (i : Int)) (rd more (i : Int)))) j = rd g j := rd_set_ne (i := (i : Int)) c
      rw [e1]
      exact h.2.2 j m hmm hb
theorem has_wider {f g : List Int} (hf : Byt f) (hg : Byt g) (h : Wider f g) (key : ByteArray) (hk : key.size ≤ 140737488351232) : ∃ b c, bloom_Has.f f key = some b ∧ bloom_Has.f g key = some c ∧ (b = true → c = true) := by
  have e : bl_is g = bl_is f := by unfold bl_is; rw [h.1, h.2.1]
  unfold bloom_Has.f
  rw [e, h.1, h.2.1, bloom_Hash_at key hk _ (Nat.le_refl _), Option.bind_some, if_pos (hashOf_range key).1, Option.bind_some, if_pos (hashOf_range key).1]
  cases hi : bl_is f with
  | false => exact ⟨false, false, rfl, rfl, fun h => h⟩
  | true =>
    refine ⟨_, _, rfl, rfl, fun hb => ?_⟩
    obtain ⟨h1, h2, h3, h4⟩ := bl_is_iff.1 hi
    rw [has_places, List.all_eq_true] at hb ⊢
    intro q hq
    have hq0 := (places_mem (show (0 : Int) < 8 * ((f.length - 1 : Nat) : Int) by omega) _ _ q hq).1
    have a := hb q hq
    have ef : ∀ l : List Int, rd (l.drop 1) (q / 8) = rd l (1 + q / 8) := fun l => by
      unfold PrintWords.rd
      rw [List.getD_eq_getElem?_getD, List.getD_eq_getElem?_getD, List.getElem?_drop, show 1 + (q / 8).toNat = (1 + q / 8).toNat by omega]
    rw [ef] at a ⊢
    exact h.2.2 _ _ (mask_range q) a

theorem more_l0 (f : List Int) (hbf : Byt f) (more : List Int) (hm : Byt more) (key : ByteArray) (hk : key.size ≤ 140737488351232) (hl : f.length ≤ 140737488351232) : ∀ (d i : Nat) (g : List Int), i + d = f.length + 1 → 1 ≤ i → Byt g → Wider f g → Ev (fun k => lienlaw11_BloomMore.l0 k f more key g (i : Int)) true := fun d => by
  have fin : ∀ g, Byt g → Wider f g → ∃ b c, bloom_Has.f f key = some b ∧ bloom_Has.f g key = some c ∧ (b = true → c = true) := fun g hg hw => has_wider hbf hg hw key hk
  induction d with
  | zero =>
    intro i g hi h1 hg hw
    obtain ⟨b, c, e1, e2, hbc⟩ := fin g hg hw
    have hlen := hw.1
    refine Ev.step (fun k => by rw [lienlaw11_BloomMore.l0]) ?_
    simp only [if_neg (show ¬ (i : Int) < (g.length : Int) by omega), e1, e2, Option.bind_some, if_true]
    cases b with
    | false => simp only [Bool.false_eq_true, if_false]; exact Ev.bind awake11 (Ev.now true)
    | true => rw [hbc rfl]; simp only [if_true]; exact Ev.bind awake11 (Ev.now true)
  | succ d ih =>
    intro i g hi h1 hg hw
    have hlen := hw.1
    by_cases c1 : (i : Int) < (g.length : Int)
    · by_cases c2 : (i : Int) < (more.length : Int)
      · refine Ev.step (fun k => by rw [lienlaw11_BloomMore.l0]) ?_
        simp only [if_pos c1, if_pos c2, if_pos (show (0 : Int) ≤ (i : Int) by omega), Int.toNat_natCast]
        rw [show wrap64 ((i : Int) + 1) = ((i + 1 : Nat) : Int) by rw [wrap64_id (by omega) (by omega)]; omega]
        exact ih (i + 1) _ (by omega) (by omega) (hg.set i (u8_or_range (hg.rd _).1 (hg.rd _).2 (hm.rd _).1 (hm.rd _).2)) (hw.step hg hm h1 (by omega))
      · obtain ⟨b, c, e1, e2, hbc⟩ := fin g hg hw
        refine Ev.step (fun k => by rw [lienlaw11_BloomMore.l0]) ?_
        simp only [if_pos c1, if_neg c2, e1, e2, Option.bind_some, if_true]
        cases b with
        | false => simp only [Bool.false_eq_true, if_false]; exact Ev.bind awake11 (Ev.now true)
        | true => rw [hbc rfl]; simp only [if_true]; exact Ev.bind awake11 (Ev.now true)
    · obtain ⟨b, c, e1, e2, hbc⟩ := fin g hg hw
      refine Ev.step (fun k => by rw [lienlaw11_BloomMore.l0]) ?_
      simp only [if_neg c1, e1, e2, Option.bind_some, if_true]
      cases b with
      | false => simp only [Bool.false_eq_true, if_false]; exact Ev.bind awake11 (Ev.now true)
      | true => rw [hbc rfl]; simp only [if_true]; exact Ev.bind awake11 (Ev.now true)
theorem more_l100 (f : List Int) (hbf : Byt f) (more : List Int) (hm : Byt more) (key : ByteArray) (hk : key.size ≤ 140737488351232) (hl : f.length ≤ 140737488351232) : ∀ (d i : Nat) (g : List Int), i + d = f.length + 1 → 1 ≤ i → Byt g → Wider f g → Ev (fun k => lienlaw11_BloomMore.l100 k f more key g (i : Int)) true := fun d => by
  have fin : ∀ g, Byt g → Wider f g → ∃ b c, bloom_Has.f f key = some b ∧ bloom_Has.f g key = some c ∧ (b = true → c = true) := fun g hg hw => has_wider hbf hg hw key hk
  induction d with
  | zero =>
    intro i g hi h1 hg hw
    obtain ⟨b, c, e1, e2, hbc⟩ := fin g hg hw
    have hlen := hw.1
    refine Ev.step (fun k => by rw [lienlaw11_BloomMore.l100]) ?_
    simp only [if_neg (show ¬ (i : Int) < (g.length : Int) by omega), e1, e2, Option.bind_some, if_true]
    cases b with
    | false => simp only [Bool.false_eq_true, if_false]; exact Ev.bind awake11 (Ev.now true)
    | true => rw [hbc rfl]; simp only [if_true]; exact Ev.bind awake11 (Ev.now true)
  | succ d ih =>
    intro i g hi h1 hg hw
    have hlen := hw.1
    by_cases c1 : (i : Int) < (g.length : Int)
    · by_cases c2 : (i : Int) < (more.length : Int)
      · refine Ev.step (fun k => by rw [lienlaw11_BloomMore.l100]) ?_
        simp only [if_pos c1, if_pos c2, if_pos (show (0 : Int) ≤ (i : Int) by omega), Int.toNat_natCast]
        rw [show wrap64 ((i : Int) + 1) = ((i + 1 : Nat) : Int) by rw [wrap64_id (by omega) (by omega)]; omega]
        exact ih (i + 1) _ (by omega) (by omega) (hg.set i (u8_or_range (hg.rd _).1 (hg.rd _).2 (hm.rd _).1 (hm.rd _).2)) (hw.step hg hm h1 (by omega))
      · obtain ⟨b, c, e1, e2, hbc⟩ := fin g hg hw
        refine Ev.step (fun k => by rw [lienlaw11_BloomMore.l100]) ?_
        simp only [if_pos c1, if_neg c2, e1, e2, Option.bind_some, if_true]
        cases b with
        | false => simp only [Bool.false_eq_true, if_false]; exact Ev.bind awake11 (Ev.now true)
        | true => rw [hbc rfl]; simp only [if_true]; exact Ev.bind awake11 (Ev.now true)
    · obtain ⟨b, c, e1, e2, hbc⟩ := fin g hg hw
      refine Ev.step (fun k => by rw [lienlaw11_BloomMore.l100]) ?_
      simp only [if_neg c1, e1, e2, Option.bind_some, if_true]
      cases b with
      | false => simp only [Bool.false_eq_true, if_false]; exact Ev.bind awake11 (Ev.now true)
      | true => rw [hbc rfl]; simp only [if_true]; exact Ev.bind awake11 (Ev.now true)
theorem BloomMore : lienlaw11_BloomMore.Pure := by
  intro l more key _ hl hw _ hl2 hw2 hk
  have hb : Byt l := Byt.of_wf hw
  have hm : Byt more := Byt.of_wf hw2
  refine Ev.rounds ?_
  unfold lienlaw11_BloomMore.f
  by_cases c : (l.length : Int) > 300
  · simp only [if_pos c, if_pos (show (300 : Int) ≤ (l.length : Int) by omega), Option.bind_some, List.nil_append, List.length_nil]
    simp only [if_pos (show 0 + (l.take 300).length < 140737488355328 by rw [List.length_take]; omega)]
    exact more_l0 (l.take 300) (hb.take 300) more hm key hk (by rw [List.length_take]; omega) (l.take 300).length 1 _ (by omega) (by omega) (hb.take 300) (Wider.refl _)
  · simp only [if_neg c, Option.bind_some, List.nil_append, List.length_nil]
    simp only [if_pos (show 0 + l.length < 140737488355328 by omega)]
    exact more_l100 l hb more hm key hk (by omega) l.length 1 _ (by omega) (by omega) hb (Wider.refl _)

end Go.Proofs.Ytlehgphnjpgjnaa.Pure
