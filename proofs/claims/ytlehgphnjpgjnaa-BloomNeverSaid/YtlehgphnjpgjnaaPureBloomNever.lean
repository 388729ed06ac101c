/- Written for the statement BloomNever over the program's printed functions: numbers and lists alone. -/
import Derived.Test.YtlehgphnjpgjnaaPBloomNeverx
set_option linter.unusedVariables false
set_option linter.unusedSimpArgs false
namespace Go.Proofs.Ytlehgphnjpgjnaa.Pure
open Go.RowKit Go.Proofs.Ytlehgphnjpgjnaa.PBloomNever Go.Proofs.YtlehgphnjpgjnaaW Go.Proofs.YtlehgphnjpgjnaaW.PrintWords Go.Proofs.YtlehgphnjpgjnaaW.PrintLast Go.Proofs.YtlehgphnjpgjnaaW.PrintMore

theorem wrap64_id {x : Int} (h0 : -9223372036854775808 ≤ x) (h1 : x ≤ 9223372036854775807) : wrap64 x = x := by unfold wrap64; omega
theorem wu64 (n : Int) : IntKind.u64.wrap n = n % 18446744073709551616 := by simp [IntKind.wrap, IntKind.bits, IntKind.signed]
theorem wraps_u64 (n : Int) (h0 : 0 ≤ n) (h1 : n < 2 ^ 64) : IntKind.u64.wrap n = n := by rw [wu64]; omega
theorem u64_and127 {x : Int} (h0 : 0 ≤ x) (h1 : x < 18446744073709551616) : Go.bits .and .u64 x 127 = x % 128 := Go.bits_mask .u64 64 (by decide) wraps_u64 7 (by decide) x h0 h1
theorem u8_and127 {x : Int} (h0 : 0 ≤ x) (h1 : x < 256) : Go.bits .and .u8 x 127 = x % 128 := Go.bits_mask .u8 8 (by decide) Go.wraps_u8 7 (by decide) x h0 h1
theorem bits_comm_or (k : IntKind) (x y : Int) : Go.bits .or k x y = Go.bits .or k y x := by simp [Go.bits, BitVec.or_comm]
theorem u8_or_128 {x : Int} (h0 : 0 ≤ x) (h1 : x < 128) : Go.bits .or .u8 x 128 = x + 128 := by
  rw [bits_comm_or, Go.bits_join .u8 8 (by decide) Go.wraps_u8 7 128 x (by decide) (by decide) (by decide) h0 h1 (by omega)]; omega
theorem u64_join (i : Nat) {x y : Int} (hx0 : 0 ≤ x) (hx : x % 2 ^ i = 0) (hx1 : x < 18446744073709551616) (hy0 : 0 ≤ y) (hy : y < 2 ^ i) (hy1 : y < 18446744073709551616) : Go.bits .or .u64 x y = x + y :=
  Go.bits_join .u64 64 (by decide) wraps_u64 i x y hx0 hx hx1 hy0 hy hy1
theorem wf_u64 {x : Int} (h : (Lit.int .u64 x).wf = true) : 0 ≤ x ∧ x < 18446744073709551616 := by
  simp [Lit.wf, IntKind.min, IntKind.max, IntKind.bits, IntKind.signed] at h; omega
theorem wf_u8 {x : Int} (h : (Lit.int .u8 x).wf = true) : 0 ≤ x ∧ x < 256 := by
  simp [Lit.wf, IntKind.min, IntKind.max, IntKind.bits, IntKind.signed] at h; omega
theorem wf_i64 {x : Int} (h : (Lit.int .i64 x).wf = true) : -9223372036854775808 ≤ x ∧ x ≤ 9223372036854775807 := by
  simp [Lit.wf, IntKind.min, IntKind.max, IntKind.bits, IntKind.signed] at h; omega
def Byt (l : List Int) : Prop := ∀ x ∈ l, 0 ≤ x ∧ x < 256
theorem Byt.of_wf {l : List Int} (h : ∀ x ∈ l, (Lit.int .u8 x).wf = true) : Byt l := fun x hx => wf_u8 (h x hx)
theorem Byt.rd {l : List Int} (h : Byt l) (i : Int) : 0 ≤ rd l i ∧ rd l i < 256 := by
  unfold PrintWords.rd
  rw [List.getD_eq_getElem?_getD]
  cases e : l[i.toNat]? with
  | none => simp
  | some x => exact h x (List.mem_of_getElem? e)
theorem Byt.take {l : List Int} (h : Byt l) (n : Nat) : Byt (l.take n) := fun x hx => h x (List.mem_of_mem_take hx)
theorem Byt.drop {l : List Int} (h : Byt l) (n : Nat) : Byt (l.drop n) := fun x hx => h x (List.mem_of_mem_drop hx)
theorem rd_nat (l : List Int) (i : Nat) : rd l (i : Int) = l.getD i 0 := by unfold PrintWords.rd; simp
theorem rd_drop {l : List Int} {i : Nat} (h : i < l.length) : l.drop i = rd l (i : Int) :: l.drop (i + 1) := by
  rw [rd_nat, List.drop_eq_getElem_cons h]; simp [List.getD_eq_getElem?_getD, List.getElem?_eq_getElem h]

theorem bits_u64_range (op : BinOp) (x y : Int) : 0 ≤ Go.bits op .u64 x y ∧ Go.bits op .u64 x y < 18446744073709551616 := by
  unfold Go.bits
  rw [wu64]
  omega
def hashEnd (h : Int) : Int := Go.bits .xor .u64 (IntKind.u64.wrap ((Go.bits .xor .u64 h (h / 2147483648)) * 10723151780598845931)) ((IntKind.u64.wrap ((Go.bits .xor .u64 h (h / 2147483648)) * 10723151780598845931)) / 536870912)
def hashGo (a : ByteArray) : Nat → Nat → Int → Int
  | 0, _, h => hashEnd h
  | d + 1, i, h => hashGo a d (i + 1) (IntKind.u64.wrap ((Go.bits .xor .u64 h (IntKind.u64.wrap (bt a (i : Int)))) * 13787848793156543929))
def hashOf (a : ByteArray) : Int := hashGo a a.size 0 11400714819323198485
theorem hashGo_range (a : ByteArray) : ∀ (d i : Nat) (h : Int), 0 ≤ hashGo a d i h ∧ hashGo a d i h < 18446744073709551616
  | 0, _, _ => by unfold hashGo hashEnd; exact bits_u64_range _ _ _
  | d + 1, i, h => hashGo_range a d (i + 1) _
theorem hashOf_range (a : ByteArray) : 0 ≤ hashOf a ∧ hashOf a < 18446744073709551616 := hashGo_range a _ _ _
theorem bloom_Hash_l0 (a : ByteArray) (hs : a.size ≤ 140737488351232) : ∀ (d i k : Nat) (h : Int), i + d = a.size → d + 1 ≤ k → bloom_Hash.l0 k a h (a.size : Int) (i : Int) = some (hashGo a d i h)
  | 0, i, k, h, hi, hk => by
    obtain ⟨k, rfl⟩ : ∃ m, k = m + 1 := ⟨k - 1, by omega⟩
    rw [bloom_Hash.l0, if_neg (by omega)]
    rfl
  | d + 1, i, k, h, hi, hk => by
    obtain ⟨k, rfl⟩ : ∃ m, k = m + 1 := ⟨k - 1, by omega⟩
    rw [bloom_Hash.l0, if_pos (by omega), if_pos (by omega), if_pos (by omega), wrap64_id (by omega) (by omega), show ((i : Int) + 1) = ((i + 1 : Nat) : Int) by omega]
    exact bloom_Hash_l0 a hs d (i + 1) k _ (by omega) (by omega)
theorem bloom_Hash_at (a : ByteArray) (hs : a.size ≤ 140737488351232) (k : Nat) (hk : a.size + 1 ≤ k) : bloom_Hash.f k a = some (hashOf a) := bloom_Hash_l0 a hs a.size 0 k _ (by omega) hk
def keyMarks (m p : Int) (ks : List ByteArray) (xs : List Int) : List Int := ks.foldl (fun xs a => bl_marks m (bl_step (hashOf a)) p.toNat (hashOf a) xs) xs
theorem keys_some (m p : Int) : ∀ (ks : List ByteArray) (xs : List Int), (∀ a ∈ ks, a.size ≤ 140737488351232) → bl_keys m p ks xs = some (keyMarks m p ks xs)
  | [], xs, _ => rfl
  | a :: ks, xs, h => by
    rw [bl_keys, bloom_Hash_at a (h a (List.mem_cons_self ..)) _ (Nat.le_refl _), Option.bind_some, if_pos (hashOf_range a).1]
    exact keys_some m p ks _ (fun b hb => h b (List.mem_cons_of_mem _ hb))
theorem mark_len (xs : List Int) (p : Int) : (bl_mark xs p).length = xs.length := by unfold bl_mark; exact List.length_set ..
theorem marks_len (m s : Int) : ∀ (n : Nat) (h : Int) (xs : List Int), (bl_marks m s n h xs).length = xs.length
  | 0, _, _ => rfl
  | n + 1, h, xs => by rw [bl_marks, marks_len m s n, mark_len]
theorem keyMarks_len (m p : Int) : ∀ (ks : List ByteArray) (xs : List Int), (keyMarks m p ks xs).length = xs.length
  | [], _ => rfl
  | a :: ks, xs => by
    show (keyMarks m p ks _).length = _
    rw [keyMarks_len m p ks, marks_len]
theorem nb_bounds (n : Nat) (b : Int) (hn : n ≤ 4096) (h1 : 1 ≤ b) (h2 : b ≤ 16) : 8 ≤ bl_nb n b ∧ bl_nb n b ≤ 8192 ∧ mx 64 (((n : Int) * b + 7) / 8 * 8) = 8 * (bl_nb n b : Int) := by
  have hp0 : 0 ≤ (n : Int) * b := Int.mul_nonneg (by omega) (by omega)
  have hp1 : (n : Int) * b ≤ 65536 := Int.le_trans (Int.mul_le_mul (show (n : Int) ≤ 4096 by omega) (show b ≤ 16 by omega) (by omega) (by omega)) (by decide)
  unfold bl_nb mx
  split <;> omega
theorem pr_bounds (b : Int) (h1 : 1 ≤ b) (h2 : b ≤ 16) : 1 ≤ bl_pr b ∧ bl_pr b ≤ 11 := by
  unfold bl_pr mx
  split <;> omega
def makeOf (ks : List ByteArray) (b : Int) : List Int := keyMarks (8 * (bl_nb ks.length b : Int)) (bl_pr b) ks ((List.replicate (bl_nb ks.length b + 1) 0).set 0 (bl_pr b))
theorem Make_some (ks : List ByteArray) (b : Int) (hn : ks.length ≤ 4096) (h1 : 1 ≤ b) (h2 : b ≤ 16) (hs : ∀ a ∈ ks, a.size ≤ 140737488351232) : bloom_Make.f ks b = some (makeOf ks b, 0) := by
  unfold bloom_Make.f
  rw [if_neg (by omega), if_neg (by omega), if_neg (by omega), keys_some _ _ _ _ hs]
  rfl
theorem makeOf_len (ks : List ByteArray) (b : Int) : (makeOf ks b).length = bl_nb ks.length b + 1 := by
  unfold makeOf
  rw [keyMarks_len, List.length_set, List.length_replicate]

theorem awake11o : lienlaw11_awake.f = some true := by kernel_rfl
theorem awake11 : Ev (fun _ => lienlaw11_awake.f) true := by rw [awake11o]; exact Ev.now true

theorem u8_or_nat {x y : Int} (hx0 : 0 ≤ x) (hx1 : x < 256) (hy0 : 0 ≤ y) (hy1 : y < 256) : Go.bits .or .u8 x y = ((x.toNat ||| y.toNat : Nat) : Int) := by
  obtain ⟨a, rfl⟩ : ∃ a : Nat, x = (a : Int) := ⟨x.toNat, by omega⟩
  obtain ⟨b, rfl⟩ : ∃ b : Nat, y = (b : Int) := ⟨y.toNat, by omega⟩
  have ha : a < 2 ^ 8 := by omega
  have hb : b < 2 ^ 8 := by omega
  have hlt : a ||| b < 2 ^ 8 := Nat.or_lt_two_pow ha hb
  have e : (BitVec.ofInt 8 (a : Int) ||| BitVec.ofInt 8 (b : Int)).toNat = a ||| b := by
    rw [BitVec.toNat_or, BitVec.toNat_ofInt, BitVec.toNat_ofInt]
    rw [show ((a : Int) % ((2 ^ 8 : Nat) : Int)).toNat = a by omega, show ((b : Int) % ((2 ^ 8 : Nat) : Int)).toNat = b by omega]
  show IntKind.u8.wrap ((BitVec.ofInt 8 (a : Int) ||| BitVec.ofInt 8 (b : Int)).toNat : Int) = _
  rw [e, Go.wraps_u8 _ (by omega) (by omega)]
  rfl
theorem u8_or_range {x y : Int} (hx0 : 0 ≤ x) (hx1 : x < 256) (hy0 : 0 ≤ y) (hy1 : y < 256) : 0 ≤ Go.bits .or .u8 x y ∧ Go.bits .or .u8 x y < 256 := by
  rw [u8_or_nat hx0 hx1 hy0 hy1]
  have : x.toNat ||| y.toNat < 2 ^ 8 := Nat.or_lt_two_pow (by omega) (by omega)
  omega
theorem u8_or_right_comm {x a b : Int} (hx : 0 ≤ x ∧ x < 256) (ha : 0 ≤ a ∧ a < 256) (hb : 0 ≤ b ∧ b < 256) : Go.bits .or .u8 (Go.bits .or .u8 x a) b = Go.bits .or .u8 (Go.bits .or .u8 x b) a := by
  have h1 := u8_or_range hx.1 hx.2 ha.1 ha.2
  have h2 := u8_or_range hx.1 hx.2 hb.1 hb.2
  rw [u8_or_nat h1.1 h1.2 hb.1 hb.2, u8_or_nat h2.1 h2.2 ha.1 ha.2, u8_or_nat hx.1 hx.2 ha.1 ha.2, u8_or_nat hx.1 hx.2 hb.1 hb.2]
  simp only [Int.toNat_natCast]
  rw [Nat.or_assoc, Nat.or_comm a.toNat, ← Nat.or_assoc]
theorem u8_or_idem {x a : Int} (hx : 0 ≤ x ∧ x < 256) (ha : 0 ≤ a ∧ a < 256) : Go.bits .or .u8 (Go.bits .or .u8 x a) a = Go.bits .or .u8 x a := by
  have h1 := u8_or_range hx.1 hx.2 ha.1 ha.2
  rw [u8_or_nat h1.1 h1.2 ha.1 ha.2, u8_or_nat hx.1 hx.2 ha.1 ha.2]
  simp only [Int.toNat_natCast]
  rw [Nat.or_assoc, Nat.or_self]
theorem mask_range (q : Int) : 0 ≤ (2 : Int) ^ (q % 8).toNat % 256 ∧ (2 : Int) ^ (q % 8).toNat % 256 < 256 := by omega
theorem rd_set_self {xs : List Int} {i : Int} {v : Int} (h : i.toNat < xs.length) : rd (xs.set i.toNat v) i = v := by
  unfold PrintWords.rd
  rw [List.getD_eq_getElem?_getD, List.getElem?_set_self h]
  rfl
theorem rd_set_ne {xs : List Int} {i j : Int} {v : Int} (h : i.toNat ≠ j.toNat) : rd (xs.set i.toNat v) j = rd xs j := by
  unfold PrintWords.rd
  rw [List.getD_eq_getElem?_getD, List.getD_eq_getElem?_getD, List.getElem?_set_ne h]
theorem Byt.set {l : List Int} (h : Byt l) (i : Nat) {v : Int} (hv : 0 ≤ v ∧ v < 256) : Byt (l.set i v) := fun x hx => by
  rcases List.mem_or_eq_of_mem_set hx with h1 | h1
  · exact h x h1
  · rw [h1]; exact hv
theorem mark_byt {xs : List Int} (h : Byt xs) (p : Int) : Byt (bl_mark xs p) := h.set _ (u8_or_range (h.rd _).1 (h.rd _).2 (mask_range p).1 (mask_range p).2)
theorem mark_comm {xs : List Int} (h : Byt xs) (p q : Int) : bl_mark (bl_mark xs p) q = bl_mark (bl_mark xs q) p := by
  unfold bl_mark
  by_cases e : (1 + p / 8).toNat = (1 + q / 8).toNat
  · by_cases hl : (1 + p / 8).toNat < xs.length
    · have a1 : rd (xs.set (1 + p / 8).toNat (Go.bits .or .u8 (rd xs (1 + p / 8)) (2 ^ (p % 8).toNat % 256))) (1 + q / 8) = Go.bits .or .u8 (rd xs (1 + p / 8)) (2 ^ (p % 8).toNat % 256) := by
        rw [e]; exact rd_set_self (by omega)
      have a2 : rd (xs.set (1 + q / 8).toNat (Go.bits .or .u8 (rd xs (1 + q / 8)) (2 ^ (q % 8).toNat % 256))) (1 + p / 8) = Go.bits .or .u8 (rd xs (1 + q / 8)) (2 ^ (q % 8).toNat % 256) := by
        rw [← e]; exact rd_set_self (by omega)
      have a3 : rd xs (1 + q / 8) = rd xs (1 + p / 8) := by unfold PrintWords.rd; rw [e]
      rw [a1, a2, a3, ← e, List.set_set, List.set_set, u8_or_right_comm (h.rd _) (mask_range p) (mask_range q)]
    · have s1 : ∀ v, xs.set (1 + p / 8).toNat v = xs := fun v => List.set_eq_of_length_le (by omega)
      have s2 : ∀ v, xs.set (1 + q / 8).toNat v = xs := fun v => List.set_eq_of_length_le (by omega)
      simp only [s1, s2]
  · rw [rd_set_ne e, rd_set_ne (fun h => e h.symm), List.set_comm _ _ e]
theorem mark_idem {xs : List Int} (h : Byt xs) (p : Int) : bl_mark (bl_mark xs p) p = bl_mark xs p := by
  unfold bl_mark
  by_cases hl : (1 + p / 8).toNat < xs.length
  · rw [rd_set_self hl, List.set_set, u8_or_idem (h.rd _) (mask_range p)]
  · have s1 : ∀ v, xs.set (1 + p / 8).toNat v = xs := fun v => List.set_eq_of_length_le (by omega)
    rw [s1, s1]
def blPlaces (m s : Int) : Nat → Int → List Int
  | 0, _ => []
  | n + 1, h => (h % m) :: blPlaces m s n (IntKind.u64.wrap (h + s))
theorem marks_places (m s : Int) : ∀ (n : Nat) (h : Int) (xs : List Int), bl_marks m s n h xs = (blPlaces m s n h).foldl bl_mark xs
  | 0, _, _ => rfl
  | n + 1, h, xs => by rw [bl_marks, marks_places m s n]; rfl
def keyPlaces (m p : Int) (a : ByteArray) : List Int := blPlaces m (bl_step (hashOf a)) p.toNat (hashOf a)
theorem keyMarks_places (m p : Int) : ∀ (ks : List ByteArray) (xs : List Int), keyMarks m p ks xs = (ks.flatMap (keyPlaces m p)).foldl bl_mark xs
  | [], _ => rfl
  | a :: ks, xs => by
    show keyMarks m p ks (bl_marks m (bl_step (hashOf a)) p.toNat (hashOf a) xs) = _
    rw [keyMarks_places m p ks, List.flatMap_cons, List.foldl_append, marks_places]
    rfl
theorem fold_byt : ∀ (L : List Int) {xs : List Int}, Byt xs → Byt (L.foldl bl_mark xs)
  | [], _, h => h
  | p :: L, _, h => fold_byt L (mark_byt h p)
theorem fold_mark : ∀ (L : List Int) {xs : List Int} (_ : Byt xs) (p : Int), L.foldl bl_mark (bl_mark xs p) = bl_mark (L.foldl bl_mark xs) p
  | [], _, _, _ => rfl
  | q :: L, xs, h, p => by
    show L.foldl bl_mark (bl_mark (bl_mark xs p) q) = bl_mark (L.foldl bl_mark (bl_mark xs q)) p
    rw [mark_comm h, fold_mark L (mark_byt h q) p]
theorem fold_absorb : ∀ (L : List Int) {xs : List Int} (_ : Byt xs) (p : Int), p ∈ L → bl_mark (L.foldl bl_mark xs) p = L.foldl bl_mark xs
  | q :: L, xs, h, p, hp => by
    show bl_mark (L.foldl bl_mark (bl_mark xs q)) p = L.foldl bl_mark (bl_mark xs q)
    rcases List.mem_cons.1 hp with rfl | hp
    · rw [← fold_mark L (mark_byt h p), mark_idem h]
    · exact fold_absorb L (mark_byt h q) p hp
theorem fold_within : ∀ (L' L : List Int) {xs : List Int} (_ : Byt xs), (∀ p ∈ L', p ∈ L) → L'.foldl bl_mark (L.foldl bl_mark xs) = L.foldl bl_mark xs
  | [], _, _, _, _ => rfl
  | p :: L', L, xs, h, hs => by
    show L'.foldl bl_mark (bl_mark (L.foldl bl_mark xs) p) = _
    rw [fold_absorb L h p (hs p (List.mem_cons_self ..))]
    exact fold_within L' L h (fun q hq => hs q (List.mem_cons_of_mem _ hq))
theorem fold_swap : ∀ (L' L : List Int) {xs : List Int} (_ : Byt xs), L'.foldl bl_mark (L.foldl bl_mark xs) = L.foldl bl_mark (L'.foldl bl_mark xs)
  | [], _, _, _ => rfl
  | p :: L', L, xs, h => by
    show L'.foldl bl_mark (bl_mark (L.foldl bl_mark xs) p) = L.foldl bl_mark (L'.foldl bl_mark (bl_mark xs p))
    rw [← fold_mark L h, fold_swap L' L (mark_byt h p)]
theorem fold_same (L L' : List Int) {xs : List Int} (h : Byt xs) (h1 : ∀ p ∈ L, p ∈ L') (h2 : ∀ p ∈ L', p ∈ L) : L.foldl bl_mark xs = L'.foldl bl_mark xs := by
  rw [← fold_within L' L h h2, fold_swap L' L h, fold_within L L' h h1]
theorem init_byt (n : Nat) (b : Int) (h1 : 1 ≤ b) (h2 : b ≤ 16) : Byt ((List.replicate n (0 : Int)).set 0 (bl_pr b)) := by
  have hp := pr_bounds b h1 h2
  refine Byt.set (fun x hx => ?_) _ (by omega)
  rw [List.eq_of_mem_replicate hx]
  omega
theorem makeOf_same (ks ls : List ByteArray) (b : Int) (h1 : 1 ≤ b) (h2 : b ≤ 16) (hl : ls.length = ks.length) (ha : ∀ a ∈ ks, a ∈ ls) (hb : ∀ a ∈ ls, a ∈ ks) : makeOf ks b = makeOf ls b := by
  unfold makeOf
  rw [hl, keyMarks_places, keyMarks_places]
  refine fold_same _ _ (init_byt _ b h1 h2) (fun p hp => ?_) (fun p hp => ?_)
  · obtain ⟨a, h1, h2⟩ := List.mem_flatMap.1 hp
    exact List.mem_flatMap.2 ⟨a, ha a h1, h2⟩
  · obtain ⟨a, h1, h2⟩ := List.mem_flatMap.1 hp
    exact List.mem_flatMap.2 ⟨a, hb a h1, h2⟩

theorem bitA : ((List.range 256).all fun x => (List.range 8).all fun i => Go.bits .and .u8 ((x : Int) / 2 ^ i) 1 == Int.tmod (shr .u8 (x : Int) (i : Int)) 2) = true := by kernel_rfl
theorem bitB : ((List.range 256).all fun x => (List.range 8).all fun i => (Go.bits .and .u8 (x : Int) (2 ^ i % 256) != 0) == !(Int.tmod (shr .u8 (x : Int) (i : Int)) 2 == 0)) = true := by kernel_rfl
theorem bitC : ((List.range 256).all fun x => (List.range 8).all fun i => !(Go.bits .or .u8 (x : Int) (2 ^ i % 256) == (x : Int)) || (Go.bits .and .u8 (x : Int) (2 ^ i % 256) != 0)) = true := by kernel_rfl
theorem bitD : ((List.range 256).all fun x => (List.range 8).all fun i => decide (bl_cnt8 (Go.bits .or .u8 (x : Int) (2 ^ i % 256)) 8 0 0 ≤ bl_cnt8 (x : Int) 8 0 0 + 1)) = true := by kernel_rfl
theorem bitE : ((List.range 256).all fun x => decide (0 ≤ bl_cnt8 (x : Int) 8 0 0 ∧ bl_cnt8 (x : Int) 8 0 0 ≤ 8)) = true := by kernel_rfl
theorem of_all {P : Nat → Nat → Bool} (h : ((List.range 256).all fun x => (List.range 8).all fun i => P x i) = true) {x i : Nat} (hx : x < 256) (hi : i < 8) : P x i = true :=
  List.all_eq_true.1 (List.all_eq_true.1 h x (List.mem_range.2 hx)) i (List.mem_range.2 hi)
theorem nat_of {x n : Int} (h : 0 ≤ x ∧ x < n) : ∃ a : Nat, x = (a : Int) ∧ (a : Int) < n := ⟨x.toNat, by omega, by omega⟩
theorem and_one {x : Int} (hx : 0 ≤ x ∧ x < 256) {i : Nat} (hi : i < 8) : Go.bits .and .u8 (x / 2 ^ i) 1 = Int.tmod (shr .u8 x (i : Int)) 2 := by
  obtain ⟨a, rfl, h⟩ := nat_of hx
  exact beq_iff_eq.1 (of_all bitA (by omega) hi)
theorem and_mask {x : Int} (hx : 0 ≤ x ∧ x < 256) {i : Nat} (hi : i < 8) : (Go.bits .and .u8 x (2 ^ i % 256) != 0) = !(Int.tmod (shr .u8 x (i : Int)) 2 == 0) := by
  obtain ⟨a, rfl, h⟩ := nat_of hx
  exact beq_iff_eq.1 (of_all bitB (by omega) hi)
theorem or_and {x : Int} (hx : 0 ≤ x ∧ x < 256) {i : Nat} (hi : i < 8) (h : Go.bits .or .u8 x (2 ^ i % 256) = x) : (Go.bits .and .u8 x (2 ^ i % 256) != 0) = true := by
  obtain ⟨a, rfl, h'⟩ := nat_of hx
  have q := of_all bitC (show a < 256 by omega) hi
  simpa [h] using q
theorem pop_or {x : Int} (hx : 0 ≤ x ∧ x < 256) {i : Nat} (hi : i < 8) : bl_cnt8 (Go.bits .or .u8 x (2 ^ i % 256)) 8 0 0 ≤ bl_cnt8 x 8 0 0 + 1 := by
  obtain ⟨a, rfl, h⟩ := nat_of hx
  exact of_decide_eq_true (of_all bitD (show a < 256 by omega) hi)
theorem pop_range {x : Int} (hx : 0 ≤ x ∧ x < 256) : 0 ≤ bl_cnt8 x 8 0 0 ∧ bl_cnt8 x 8 0 0 ≤ 8 := by
  obtain ⟨a, rfl, h⟩ := nat_of hx
  exact of_decide_eq_true (List.all_eq_true.1 bitE a (List.mem_range.2 (by omega)))

theorem places_mem {m s : Int} (hm : 0 < m) : ∀ (n : Nat) (h : Int), ∀ q ∈ blPlaces m s n h, 0 ≤ q ∧ q < m
  | 0, _, q, hq => by cases hq
  | n + 1, h, q, hq => by
    rcases List.mem_cons.1 hq with rfl | hq
    · exact ⟨Int.emod_nonneg _ (by omega), Int.emod_lt_of_pos _ hm⟩
    · exact places_mem hm n _ q hq
theorem places_len (m s : Int) : ∀ (n : Nat) (h : Int), (blPlaces m s n h).length = n
  | 0, _ => rfl
  | n + 1, h => by rw [blPlaces, List.length_cons, places_len m s n]

def cutText (a : ByteArray) : ByteArray := a.extract 0 (mn (a.size : Int) 80).toNat
theorem cutText_size (a : ByteArray) : (cutText a).size ≤ 80 := by
  unfold cutText mn
  rw [ByteArray.size_extract]
  split <;> omega
theorem rdOf_at (xs : List ByteArray) (i : Nat) (h : i < xs.length) : rdOf ByteArray.empty xs (i : Int) = xs[i] := by simp [rdOf, List.getD_eq_getElem?_getD, h]
theorem few_l0 (ls : List ByteArray) (hs : ∀ a ∈ ls, a.size ≤ 140737488351232) : ∀ (d i k : Nat) (acc : List ByteArray), i + d = min ls.length 200 → acc.length = i → d + 1 ≤ k → ∃ t, lienlaw11_few.l0 k ls acc (i : Int) = some t ∧ t.length ≤ 200 ∧ ((∀ a ∈ acc, a.size ≤ 80) → ∀ a ∈ t, a.size ≤ 80) ∧ ∀ k', d + 1 ≤ k' → lienlaw11_few.l0 k' ls acc (i : Int) = some t
  | 0, i, k, acc, hi, ha, hk => by
    have key : ∀ k', 0 + 1 ≤ k' → lienlaw11_few.l0 k' ls acc (i : Int) = some acc := fun k' hk' => by
      obtain ⟨k, rfl⟩ : ∃ m, k' = m + 1 := ⟨k' - 1, by omega⟩
      rw [lienlaw11_few.l0]
      by_cases h : (i : Int) < (ls.length : Int)
      · rw [if_pos h, if_neg (by omega)]
      · rw [if_neg h]
    exact ⟨acc, key k hk, by omega, fun h => h, key⟩
  | d + 1, i, k, acc, hi, ha, hk => by
    have hlt : i < ls.length := by omega
    have step : ∀ k', lienlaw11_few.l0 (k' + 1) ls acc (i : Int) = lienlaw11_few.l0 k' ls (acc ++ [cutText ls[i]]) ((i + 1 : Nat) : Int) := fun k' => by
      have hz := hs ls[i] (List.getElem_mem hlt)
      have hm : 0 ≤ mn (ls[i].size : Int) 80 ∧ mn (ls[i].size : Int) 80 ≤ (ls[i].size : Int) := by unfold mn; split <;> omega
      rw [lienlaw11_few.l0, rdOf_at ls i hlt, if_pos (by omega), if_pos (by omega), if_pos (by omega), if_pos hm.1, if_pos hm.2, if_pos (by omega), wrap64_id (by omega) (by omega)]
      rfl
    obtain ⟨k, rfl⟩ : ∃ m, k = m + 1 := ⟨k - 1, by omega⟩
    obtain ⟨t, h1, h2, h3, h4⟩ := few_l0 ls hs d (i + 1) k (acc ++ [cutText ls[i]]) (by omega) (by simp [ha]) (by omega)
    refine ⟨t, by rw [step]; exact h1, h2, fun hacc => h3 (fun a ha => ?_), fun k' hk' => ?_⟩
    · rcases List.mem_append.1 ha with h | h
      · exact hacc a h
      · rw [List.mem_singleton.1 h]; exact cutText_size _
    · obtain ⟨k', rfl⟩ : ∃ m, k' = m + 1 := ⟨k' - 1, by omega⟩
      rw [step]
      exact h4 k' (by omega)
theorem few_ev (ls : List ByteArray) (hs : ∀ a ∈ ls, a.size ≤ 140737488351232) : ∃ t, Ev (fun k => lienlaw11_few.f k ls) t ∧ t.length ≤ 200 ∧ ∀ a ∈ t, a.size ≤ 80 := by
  obtain ⟨t, h1, h2, h3, h4⟩ := few_l0 ls hs (min ls.length 200) 0 (min ls.length 200 + 1) [] (by omega) rfl (by omega)
  exact ⟨t, ⟨min ls.length 200 + 1, fun k hk => h4 k hk⟩, h2, h3 (fun a ha => by cases ha)⟩

theorem has_places (m s : Int) (l : List Int) : ∀ (n : Nat) (h : Int), bl_has m s l n h = (blPlaces m s n h).all fun q => Go.bits .and .u8 (rd l (q / 8)) (2 ^ (q % 8).toNat % 256) != 0
  | 0, _ => rfl
  | n + 1, h => by
    rw [bl_has, blPlaces, List.all_cons, has_places m s l n]
    cases (Go.bits .and .u8 (rd l (h % m / 8)) (2 ^ (h % m % 8).toNat % 256) != 0) <;> simp

theorem rd_drop1 {l : List Int} {i : Int} (h : 0 ≤ i) : rd (l.drop 1) i = rd l (1 + i) := by
  unfold PrintWords.rd
  rw [List.getD_eq_getElem?_getD, List.getD_eq_getElem?_getD, List.getElem?_drop, show 1 + i.toNat = (1 + i).toNat by omega]
theorem mark_rd0 (xs : List Int) {q : Int} (h : 0 ≤ q) : rd (bl_mark xs q) 0 = rd xs 0 := by
  unfold bl_mark
  exact rd_set_ne (by omega)
theorem fold_rd0 : ∀ (L : List Int) (xs : List Int), (∀ q ∈ L, 0 ≤ q) → rd (L.foldl bl_mark xs) 0 = rd xs 0
  | [], _, _ => rfl
  | q :: L, xs, h => by
    show rd (L.foldl bl_mark (bl_mark xs q)) 0 = _
    rw [fold_rd0 L _ (fun r hr => h r (List.mem_cons_of_mem _ hr)), mark_rd0 _ (h q (List.mem_cons_self ..))]
theorem keyPlaces_mem {m p : Int} (hm : 0 < m) (ks : List ByteArray) : ∀ q ∈ ks.flatMap (keyPlaces m p), 0 ≤ q ∧ q < m := fun q hq => by
  obtain ⟨a, _, h⟩ := List.mem_flatMap.1 hq
  exact places_mem hm _ _ q h
theorem has_marked {f : List Int} (hb : Byt f) {m s : Int} (hm : 0 < m) (hl : m ≤ 8 * ((f.length : Int) - 1)) : ∀ (n : Nat) (h : Int), (∀ q ∈ blPlaces m s n h, bl_mark f q = f) → bl_has m s (f.drop 1) n h = true := fun n h hq => by
  rw [has_places, List.all_eq_true]
  intro q hqm
  obtain ⟨q0, q1⟩ := places_mem hm _ _ q hqm
  have e := hq q hqm
  rw [rd_drop1 (by omega)]
  refine or_and (hb.rd _) (by omega) ?_
  have e2 : rd (bl_mark f q) (1 + q / 8) = rd f (1 + q / 8) := by rw [e]
  unfold bl_mark at e2
  rw [rd_set_self (by omega)] at e2
  exact e2
def popSum : List Int → Int
  | [] => 0
  | x :: xs => bl_cnt8 x 8 0 0 + popSum xs
def bitSum (x : Int) : Nat → Nat → Int
  | 0, _ => 0
  | d + 1, i => Go.bits .and .u8 (x / 2 ^ i) 1 + bitSum x d (i + 1)
theorem cnt8_sum (x : Int) (hx : 0 ≤ x ∧ x < 256) : ∀ (d i : Nat) (a : Int), i + d = 8 → 0 ≤ a → a + d ≤ 1000000 → bl_cnt8 x d i a = a + bitSum x d i
  | 0, _, a, _, _, _ => by rw [bl_cnt8, bitSum, Int.add_zero]
  | d + 1, i, a, hi, h0, h1 => by
    have hs : 0 ≤ Go.bits .and .u8 (x / 2 ^ i) 1 ∧ Go.bits .and .u8 (x / 2 ^ i) 1 ≤ 1 := by
      rw [and_one hx (show i < 8 by omega)]
      have : 0 ≤ shr .u8 x (i : Int) := Int.ediv_nonneg hx.1 (Int.pow_nonneg (by decide))
      rw [Int.tmod_eq_emod_of_nonneg this]
      omega
    rw [bl_cnt8, bitSum, wrap64_id (x := Go.bits .and .u8 (x / 2 ^ i) 1) (by omega) (by omega), wrap64_id (by omega) (by omega), cnt8_sum x hx d (i + 1) _ (by omega) (by omega) (by omega), Int.add_assoc]
theorem cnt8_at (x : Int) (hx : 0 ≤ x ∧ x < 256) (a : Int) (h0 : 0 ≤ a) (h1 : a ≤ 900000) : bl_cnt8 x 8 0 a = a + bl_cnt8 x 8 0 0 := by
  rw [cnt8_sum x hx 8 0 a (by omega) h0 (by omega), cnt8_sum x hx 8 0 0 (by omega) (by omega) (by omega), Int.zero_add]
theorem popSum_range : ∀ (l : List Int), Byt l → 0 ≤ popSum l ∧ popSum l ≤ 8 * (l.length : Int)
  | [], _ => ⟨Int.le_refl _, Int.le_refl _⟩
  | x :: xs, h => by
    have h1 := pop_range (h x (List.mem_cons_self ..))
    have h2 := popSum_range xs (fun y hy => h y (List.mem_cons_of_mem _ hy))
    rw [popSum, List.length_cons]
    omega
theorem cntAll_sum : ∀ (l : List Int) (_ : Byt l) (a : Int), 0 ≤ a → a + 8 * (l.length : Int) ≤ 900000 → bl_cntAll l a = a + popSum l
  | [], _, a, _, _ => by rw [bl_cntAll, popSum, Int.add_zero]
  | x :: xs, h, a, h0, h1 => by
    have hx := h x (List.mem_cons_self ..)
    have hp := pop_range hx
    rw [List.length_cons] at h1
    rw [bl_cntAll, cnt8_at x hx a h0 (by omega), cntAll_sum xs (fun y hy => h y (List.mem_cons_of_mem _ hy)) _ (by omega) (by omega), popSum, Int.add_assoc]
theorem popSum_set : ∀ (l : List Int) (i : Nat) (v : Int) (h : i < l.length), popSum (l.set i v) + bl_cnt8 l[i] 8 0 0 = popSum l + bl_cnt8 v 8 0 0
  | x :: xs, 0, v, _ => by
    show bl_cnt8 v 8 0 0 + popSum xs + bl_cnt8 x 8 0 0 = bl_cnt8 x 8 0 0 + popSum xs + bl_cnt8 v 8 0 0
    omega
  | x :: xs, i + 1, v, h => by
    have h' : i < xs.length := by simpa using h
    have ih := popSum_set xs i v h'
    show bl_cnt8 x 8 0 0 + popSum (xs.set i v) + bl_cnt8 xs[i] 8 0 0 = bl_cnt8 x 8 0 0 + popSum xs + bl_cnt8 v 8 0 0
    omega
theorem popSum_mark {xs : List Int} (hb : Byt xs) {q : Int} (h0 : 0 ≤ q) : popSum ((bl_mark xs q).drop 1) ≤ popSum (xs.drop 1) + 1 := by
  cases xs with
  | nil => simp [bl_mark, popSum]
  | cons x ys =>
    have e : (bl_mark (x :: ys) q).drop 1 = ys.set (q / 8).toNat (Go.bits .or .u8 (rd (x :: ys) (1 + q / 8)) (2 ^ (q % 8).toNat % 256)) := by
      unfold bl_mark
      rw [show (1 + q / 8).toNat = (q / 8).toNat + 1 by omega]
      rfl
    rw [e]
    show popSum (ys.set _ _) ≤ popSum ys + 1
    by_cases hl : (q / 8).toNat < ys.length
    · have s := popSum_set ys (q / 8).toNat (Go.bits .or .u8 (rd (x :: ys) (1 + q / 8)) (2 ^ (q % 8).toNat % 256)) hl
      have er : rd (x :: ys) (1 + q / 8) = ys[(q / 8).toNat] := by
        unfold PrintWords.rd
        rw [show (1 + q / 8).toNat = (q / 8).toNat + 1 by omega, List.getD_eq_getElem?_getD]
        simp [hl]
      have p := pop_or (hb.rd (1 + q / 8)) (show (q % 8).toNat < 8 by omega)
      rw [er] at p s ⊢
      omega
    · rw [List.set_eq_of_length_le (by omega)]
      omega
theorem popSum_fold : ∀ (L : List Int) {xs : List Int} (_ : Byt xs), (∀ q ∈ L, 0 ≤ q) → popSum ((L.foldl bl_mark xs).drop 1) ≤ popSum (xs.drop 1) + (L.length : Int)
  | [], _, _, _ => by simp
  | q :: L, xs, h, hq => by
    have ih := popSum_fold L (mark_byt h q) (fun r hr => hq r (List.mem_cons_of_mem _ hr))
    have p := popSum_mark h (hq q (List.mem_cons_self ..))
    show popSum ((L.foldl bl_mark (bl_mark xs q)).drop 1) ≤ _
    rw [List.length_cons]
    omega
theorem popSum_zeros : ∀ n : Nat, popSum (List.replicate n (0 : Int)) = 0
  | 0 => rfl
  | n + 1 => by
    rw [List.replicate_succ, popSum, popSum_zeros n]
    have z : bl_cnt8 0 8 0 0 = 0 := by kernel_rfl
    omega
theorem flat_len (m : Int) (p : Int) : ∀ ks : List ByteArray, (ks.flatMap (keyPlaces m p)).length = ks.length * p.toNat
  | [] => by simp
  | a :: ks => by
    rw [List.flatMap_cons, List.length_append, flat_len m p ks, show (keyPlaces m p a).length = p.toNat from places_len _ _ _ _, List.length_cons, Nat.succ_mul]
    omega

theorem never_l0 (ks : List ByteArray) (hks : ks.length ≤ 200) (f : List Int) (hf : ∀ a ∈ ks, bloom_Has.f f a = some true) (n : Int) (hc : bloom_Count.f f = some (n, 8 * ((f.length - 1 : Nat) : Int), 0)) (hl : 0 < f.length) (hr : 1 ≤ rd f 0) (hr2 : rd f 0 ≤ 16) (hn : n ≤ rd f 0 * (ks.length : Int)) : ∀ (d i : Nat), i + d = ks.length → Ev (fun k => lienlaw11_BloomNever.l0 k ks f (i : Int)) true
  | 0, i, hi => by
    refine Ev.step (fun k => by rw [lienlaw11_BloomNever.l0]) ?_
    have hm0 : 0 ≤ rd f 0 * (ks.length : Int) := Int.mul_nonneg (by omega) (by omega)
    have hm1 : rd f 0 * (ks.length : Int) ≤ 16 * 200 := Int.mul_le_mul hr2 (by omega) (by omega) (by omega)
    rw [wrap64_id (x := rd f 0) (by omega) (by omega), wrap64_id (x := rd f 0 * (ks.length : Int)) (by omega) (by omega)]
    simp only [if_neg (show ¬ (i : Int) < (ks.length : Int) by omega), hc, Option.bind_some, if_true, if_pos (show (0 : Int) < (f.length : Int) by omega), if_pos hn]
    exact Ev.bind awake11 (Ev.now true)
  | d + 1, i, hi => by
    refine Ev.step (fun k => by rw [lienlaw11_BloomNever.l0]) ?_
    have hlt : i < ks.length := by omega
    simp only [if_pos (show (i : Int) < (ks.length : Int) by omega), if_pos (show (0 : Int) ≤ (i : Int) by omega), rdOf_at ks i hlt, hf ks[i] (List.getElem_mem hlt), Option.bind_some, if_true]
    rw [show wrap64 ((i : Int) + 1) = ((i + 1 : Nat) : Int) by rw [wrap64_id (by omega) (by omega)]; omega]
    exact never_l0 ks hks f hf n hc hl hr hr2 hn d (i + 1) (by omega)
theorem BloomNever : lienlaw11_BloomNever.Pure := by
  intro ls b hl hb
  obtain ⟨b0, b1⟩ := wf_u8 hb
  obtain ⟨ks, hk, hk1, hk2⟩ := few_ev ls hl.2.2
  refine Ev.rounds ?_
  unfold lienlaw11_BloomNever.f
  refine Ev.bind hk ?_
  have eb : wrap64 (wrap64 (Int.tmod b 16) + 1) = b % 16 + 1 := by
    rw [Int.tmod_eq_emod_of_nonneg b0, wrap64_id (x := b % 16) (by omega) (by omega), wrap64_id (by omega) (by omega)]
  obtain ⟨c, hc⟩ : ∃ c, b % 16 + 1 = c := ⟨_, rfl⟩
  rw [eb, hc]
  have c1 : 1 ≤ c := by omega
  have c2 : c ≤ 16 := by omega
  have hz : ∀ a ∈ ks, a.size ≤ 140737488351232 := fun a h => by have := hk2 a h; omega
  have e1 := Make_some ks c (by omega) c1 c2 hz
  obtain ⟨n8, n9, hm⟩ := nb_bounds ks.length c (by omega) c1 c2
  obtain ⟨p1, p2⟩ := pr_bounds c c1 c2
  have hlen := makeOf_len ks c
  have hplace := keyPlaces_mem (m := 8 * (bl_nb ks.length c : Int)) (p := bl_pr c) (by omega) ks
  have hform : makeOf ks c = (ks.flatMap (keyPlaces (8 * (bl_nb ks.length c : Int)) (bl_pr c))).foldl bl_mark ((List.replicate (bl_nb ks.length c + 1) 0).set 0 (bl_pr c)) := keyMarks_places _ _ _ _
  have hbyt : Byt (makeOf ks c) := by rw [hform]; exact fold_byt _ (init_byt _ c c1 c2)
  have hrd : rd (makeOf ks c) 0 = bl_pr c := by
    rw [hform, fold_rd0 _ _ (fun q hq => (hplace q hq).1)]
    exact rd_set_self (i := 0) (by rw [List.length_replicate]; exact Nat.succ_pos _)
  have hpop : popSum ((makeOf ks c).drop 1) ≤ bl_pr c * (ks.length : Int) := by
    have q := popSum_fold (ks.flatMap (keyPlaces (8 * (bl_nb ks.length c : Int)) (bl_pr c))) (init_byt (bl_nb ks.length c + 1) c c1 c2) (fun q hq => (hplace q hq).1)
    rw [← hform, flat_len] at q
    have z : popSum (((List.replicate (bl_nb ks.length c + 1) (0 : Int)).set 0 (bl_pr c)).drop 1) = 0 := by
      rw [List.replicate_succ]
      exact popSum_zeros _
    rw [z] at q
    have e : ((ks.length * (bl_pr c).toNat : Nat) : Int) = bl_pr c * (ks.length : Int) := by
      rw [Int.natCast_mul, show (((bl_pr c).toNat : Nat) : Int) = bl_pr c by omega, Int.mul_comm]
    omega
  have hmark : ∀ a ∈ ks, ∀ q ∈ keyPlaces (8 * (bl_nb ks.length c : Int)) (bl_pr c) a, bl_mark (makeOf ks c) q = makeOf ks c := fun a ha q hq => by
    rw [hform]
    exact fold_absorb _ (init_byt _ c c1 c2) q (List.mem_flatMap.2 ⟨a, ha, hq⟩)
  generalize makeOf ks c = f at e1 hlen hform hbyt hrd hpop hmark
  clear hform
  have his : bl_is f = true := bl_is_iff.2 ⟨by omega, by omega, by omega, by omega⟩
  have hnb : f.length - 1 = bl_nb ks.length c := by omega
  have hhas : ∀ a ∈ ks, bloom_Has.f f a = some true := fun a ha => by
    unfold bloom_Has.f
    rw [if_pos his, bloom_Hash_at a (hz a ha) _ (Nat.le_refl _), Option.bind_some, if_pos (hashOf_range a).1, hnb, hrd]
    exact congrArg some (has_marked hbyt (by omega) (by omega) _ _ (fun q hq => hmark a ha q hq))
  have hcnt : bloom_Count.f f = some (popSum (f.drop 1), 8 * ((f.length - 1 : Nat) : Int), 0) := by
    unfold bloom_Count.f
    rw [if_pos his, cntAll_sum _ (hbyt.drop 1) 0 (by omega) (by rw [List.length_drop]; omega), Int.zero_add]
  simp only [e1, Option.bind_some, if_true]
  refine Ev.step (fun k => by rw [lienlaw11_BloomNever.j0]) ?_
  rw [show ((f.length : Int) == 0) = false from beq_eq_false_iff_ne.2 (by omega)]
  simp only [Bool.false_eq_true, if_false]
  exact never_l0 ks hk1 f hhas _ hcnt (by omega) (by omega) (by omega) (by rw [hrd]; exact hpop) ks.length 0 (by omega)

end Go.Proofs.Ytlehgphnjpgjnaa.Pure
