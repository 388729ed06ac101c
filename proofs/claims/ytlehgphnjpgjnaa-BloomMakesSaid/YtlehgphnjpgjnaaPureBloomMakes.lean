/- Written for the statement BloomMakes over the program's printed functions: numbers and lists alone. -/
import Derived.Test.YtlehgphnjpgjnaaPBloomMakesx
set_option linter.unusedVariables false
set_option linter.unusedSimpArgs false
namespace Go.Proofs.Ytlehgphnjpgjnaa.Pure
open Go.RowKit Go.Proofs.Ytlehgphnjpgjnaa.PBloomMakes Go.Proofs.YtlehgphnjpgjnaaW Go.Proofs.YtlehgphnjpgjnaaW.PrintWords Go.Proofs.YtlehgphnjpgjnaaW.PrintLast Go.Proofs.YtlehgphnjpgjnaaW.PrintMore

theorem wrap64_id {x : Int} (h0 : -9223372036854775808 ≤ x) (h1 : x ≤ 9223372036854775807) : wrap64 x = x := by unfold wrap64; omega
theorem wu64 (n : Int) : IntKind.u64.wrap n = n % 18446744073709551616 := by simp [IntKind.wrap, IntKind.bits, IntKind.signed]
theorem wraps_u64 (n : Int) (h0 : 0 ≤ n) (h1 : n < 2 ^ 64) : IntKind.u64.wrap n = n := by rw [wu64]; omega
theorem u64_and127 {x : Int} (h0 : 0 ≤ x) (h1 : x < 18446744073709551616) : Go.bits .and .u64 x 127 = x % 128 := Go.bits_mask .u64 64 (by decide) wraps_u64 7 (by decide) x h0 h1
theorem u8_and127 {x : Int} (h0 : 0 ≤ x) (h1 : x < 256) : Go.bits .and .u8 x 127 = x % 128 := Go.bits_mask .u8 8 (by decide) Go.wraps_u8 7 (by decide) x h0 h1
theorem bits_comm_or (k : IntKind) (x y : Int) : Go.bits .or k x y = Go.bits .or k y x := by simp [Go.bits, BitVec.or_comm]
theorem u8_or_128 {x : Int} (h0 : 0 ≤ x) (h1 : x < 128) : Go.bits .or .u8 x 128 = x + 128 := by
  rw [bits_comm_or, Go.bits_join .u8 8 (by decide) Go.wraps_u8 7 128 x (by decide) (by decide) (by decide) h0 h1 (by omega)]; omega
theorem u64_join (i : Nat) {x y : Int} (hx0 : 0 ≤ x) (hx : x % 2 ^ i = 0) (hx1 : x < 18446744073709551616) (hy0 : 0 ≤ y) (hy : y < 2 ^ i) (hy1 : y < 18446744073709551616) : Go.bits .or .u64 x y = x + y :=
  Go.bits_join .u64 64 (by decide) wraps_u64 i x y hx0 hx hx1 hy0 hy hy1
theorem wf_u64 {x : Int} (h : (Lit.int .u64 x).wf = true) : 0 ≤ x ∧ x < 18446744073709551616 := by
  simp [Lit.wf, IntKind.min, IntKind.max, IntKind.bits, IntKind.signed] at h; omega
theorem wf_u8 {x : Int} (h : (Lit.int .u8 x).wf = true) : 0 ≤ x ∧ x < 256 := by
  simp [Lit.wf, IntKind.min, IntKind.max, IntKind.bits, IntKind.signed] at h; omega
theorem wf_i64 {x : Int} (h : (Lit.int .i64 x).wf = true) : -9223372036854775808 ≤ x ∧ x ≤ 9223372036854775807 := by
  simp [Lit.wf, IntKind.min, IntKind.max, IntKind.bits, IntKind.signed] at h; omega
def Byt (l : List Int) : Prop := ∀ x ∈ l, 0 ≤ x ∧ x < 256
theorem Byt.of_wf {l : List Int} (h : ∀ x ∈ l, (Lit.int .u8 x).wf = true) : Byt l := fun x hx => wf_u8 (h x hx)
theorem Byt.rd {l : List Int} (h : Byt l) (i : Int) : 0 ≤ rd l i ∧ rd l i < 256 := by
  unfold PrintWords.rd
  rw [List.getD_eq_getElem?_getD]
  cases e : l[i.toNat]? with
  | none => simp
  | some x => exact h x (List.mem_of_getElem? e)
theorem Byt.take {l : List Int} (h : Byt l) (n : Nat) : Byt (l.take n) := fun x hx => h x (List.mem_of_mem_take hx)
theorem Byt.drop {l : List Int} (h : Byt l) (n : Nat) : Byt (l.drop n) := fun x hx => h x (List.mem_of_mem_drop hx)
theorem rd_nat (l : List Int) (i : Nat) : rd l (i : Int) = l.getD i 0 := by unfold PrintWords.rd; simp
theorem rd_drop {l : List Int} {i : Nat} (h : i < l.length) : l.drop i = rd l (i : Int) :: l.drop (i + 1) := by
  rw [rd_nat, List.drop_eq_getElem_cons h]; simp [List.getD_eq_getElem?_getD, List.getElem?_eq_getElem h]

theorem bits_u64_range (op : BinOp) (x y : Int) : 0 ≤ Go.bits op .u64 x y ∧ Go.bits op .u64 x y < 18446744073709551616 := by
  unfold Go.bits
  rw [wu64]
  omega
def hashEnd (h : Int) : Int := Go.bits .xor .u64 (IntKind.u64.wrap ((Go.bits .xor .u64 h (h / 2147483648)) * 10723151780598845931)) ((IntKind.u64.wrap ((Go.bits .xor .u64 h (h / 2147483648)) * 10723151780598845931)) / 536870912)
def hashGo (a : ByteArray) : Nat → Nat → Int → Int
  | 0, _, h => hashEnd h
  | d + 1, i, h => hashGo a d (i + 1) (IntKind.u64.wrap ((Go.bits .xor .u64 h (IntKind.u64.wrap (bt a (i : Int)))) * 13787848793156543929))
def hashOf (a : ByteArray) : Int := hashGo a a.size 0 11400714819323198485
theorem hashGo_range (a : ByteArray) : ∀ (d i : Nat) (h : Int), 0 ≤ hashGo a d i h ∧ hashGo a d i h < 18446744073709551616
  | 0, _, _ => by unfold hashGo hashEnd; exact bits_u64_range _ _ _
  | d + 1, i, h => hashGo_range a d (i + 1) _
theorem hashOf_range (a : ByteArray) : 0 ≤ hashOf a ∧ hashOf a < 18446744073709551616 := hashGo_range a _ _ _
theorem bloom_Hash_l0 (a : ByteArray) (hs : a.size ≤ 140737488351232) : ∀ (d i k : Nat) (h : Int), i + d = a.size → d + 1 ≤ k → bloom_Hash.l0 k a h (a.size : Int) (i : Int) = some (hashGo a d i h)
  | 0, i, k, h, hi, hk => by
    obtain ⟨k, rfl⟩ : ∃ m, k = m + 1 := ⟨k - 1, by omega⟩
    rw [bloom_Hash.l0, if_neg (by omega)]
    rfl
  | d + 1, i, k, h, hi, hk => by
    obtain ⟨k, rfl⟩ : ∃ m, k = m + 1 := ⟨k - 1, by omega⟩
    rw [bloom_Hash.l0, if_pos (by omega), if_pos (by omega), if_pos (by omega), wrap64_id (by omega) (by omega), show ((i : Int) + 1) = ((i + 1 : Nat) : Int) by omega]
    exact bloom_Hash_l0 a hs d (i + 1) k _ (by omega) (by omega)
theorem bloom_Hash_at (a : ByteArray) (hs : a.size ≤ 140737488351232) (k : Nat) (hk : a.size + 1 ≤ k) : bloom_Hash.f k a = some (hashOf a) := bloom_Hash_l0 a hs a.size 0 k _ (by omega) hk
def keyMarks (m p : Int) (ks : List ByteArray) (xs : List Int) : List Int := ks.foldl (fun xs a => bl_marks m (bl_step (hashOf a)) p.toNat (hashOf a) xs) xs
theorem keys_some (m p : Int) : ∀ (ks : List ByteArray) (xs : List Int), (∀ a ∈ ks, a.size ≤ 140737488351232) → bl_keys m p ks xs = some (keyMarks m p ks xs)
  | [], xs, _ => rfl
  | a :: ks, xs, h => by
    rw [bl_keys, bloom_Hash_at a (h a (List.mem_cons_self ..)) _ (Nat.le_refl _), Option.bind_some, if_pos (hashOf_range a).1]
    exact keys_some m p ks _ (fun b hb => h b (List.mem_cons_of_mem _ hb))
theorem mark_len (xs : List Int) (p : Int) : (bl_mark xs p).length = xs.length := by unfold bl_mark; exact List.length_set ..
theorem marks_len (m s : Int) : ∀ (n : Nat) (h : Int) (xs : List Int), (bl_marks m s n h xs).length = xs.length
  | 0, _, _ => rfl
  | n + 1, h, xs => by rw [bl_marks, marks_len m s n, mark_len]
theorem keyMarks_len (m p : Int) : ∀ (ks : List ByteArray) (xs : List Int), (keyMarks m p ks xs).length = xs.length
  | [], _ => rfl
  | a :: ks, xs => by
    show (keyMarks m p ks _).length = _
    rw [keyMarks_len m p ks, marks_len]
theorem nb_bounds (n : Nat) (b : Int) (hn : n ≤ 4096) (h1 : 1 ≤ b) (h2 : b ≤ 16) : 8 ≤ bl_nb n b ∧ bl_nb n b ≤ 8192 ∧ mx 64 (((n : Int) * b + 7) / 8 * 8) = 8 * (bl_nb n b : Int) := by
  have hp0 : 0 ≤ (n : Int) * b := Int.mul_nonneg (by omega) (by omega)
  have hp1 : (n : Int) * b ≤ 65536 := Int.le_trans (Int.mul_le_mul (show (n : Int) ≤ 4096 by omega) (show b ≤ 16 by omega) (by omega) (by omega)) (by decide)
  unfold bl_nb mx
  split <;> omega
theorem pr_bounds (b : Int) (h1 : 1 ≤ b) (h2 : b ≤ 16) : 1 ≤ bl_pr b ∧ bl_pr b ≤ 11 := by
  unfold bl_pr mx
  split <;> omega
def makeOf (ks : List ByteArray) (b : Int) : List Int := keyMarks (8 * (bl_nb ks.length b : Int)) (bl_pr b) ks ((List.replicate (bl_nb ks.length b + 1) 0).set 0 (bl_pr b))
theorem Make_some (ks : List ByteArray) (b : Int) (hn : ks.length ≤ 4096) (h1 : 1 ≤ b) (h2 : b ≤ 16) (hs : ∀ a ∈ ks, a.size ≤ 140737488351232) : bloom_Make.f ks b = some (makeOf ks b, 0) := by
  unfold bloom_Make.f
  rw [if_neg (by omega), if_neg (by omega), if_neg (by omega), keys_some _ _ _ _ hs]
  rfl
theorem makeOf_len (ks : List ByteArray) (b : Int) : (makeOf ks b).length = bl_nb ks.length b + 1 := by
  unfold makeOf
  rw [keyMarks_len, List.length_set, List.length_replicate]

theorem awake11o : lienlaw11_awake.f = some true := by kernel_rfl
theorem awake11 : Ev (fun _ => lienlaw11_awake.f) true := by rw [awake11o]; exact Ev.now true

theorem u8_or_nat {x y : Int} (hx0 : 0 ≤ x) (hx1 : x < 256) (hy0 : 0 ≤ y) (hy1 : y < 256) : Go.bits .or .u8 x y = ((x.toNat ||| y.toNat : Nat) : Int) := by
  obtain ⟨a, rfl⟩ : ∃ a : Nat, x = (a : Int) := ⟨x.toNat, by omega⟩
  obtain ⟨b, rfl⟩ : ∃ b : Nat, y = (b : Int) := ⟨y.toNat, by omega⟩
  have ha : a < 2 ^ 8 := by omega
  have hb : b < 2 ^ 8 := by omega
  have hlt : a ||| b < 2 ^ 8 := Nat.or_lt_two_pow ha hb
  have e : (BitVec.ofInt 8 (a : Int) ||| BitVec.ofInt 8 (b : Int)).toNat = a ||| b := by
    rw [BitVec.toNat_or, BitVec.toNat_ofInt, BitVec.toNat_ofInt]
    rw [show ((a : Int) % ((2 ^ 8 : Nat) : Int)).toNat = a by omega, show ((b : Int) % ((2 ^ 8 : Nat) : Int)).toNat = b by omega]
  show IntKind.u8.wrap ((BitVec.ofInt 8 (a : Int) ||| BitVec.ofInt 8 (b : Int)).toNat : Int) = _
  rw [e, Go.wraps_u8 _ (by omega) (by omega)]
  rfl
theorem u8_or_range {x y : Int} (hx0 : 0 ≤ x) (hx1 : x < 256) (hy0 : 0 ≤ y) (hy1 : y < 256) : 0 ≤ Go.bits .or .u8 x y ∧ Go.bits .or .u8 x y < 256 := by
  rw [u8_or_nat hx0 hx1 hy0 hy1]
  have : x.toNat ||| y.toNat < 2 ^ 8 := Nat.or_lt_two_pow (by omega) (by omega)
  omega
theorem u8_or_right_comm {x a b : Int} (hx : 0 ≤ x ∧ x < 256) (ha : 0 ≤ a ∧ a < 256) (hb : 0 ≤ b ∧ b < 256) : Go.bits .or .u8 (Go.bits .or .u8 x a) b = Go.bits .or .u8 (Go.bits .or .u8 x b) a := by
  have h1 := u8_or_range hx.1 hx.2 ha.1 ha.2
  have h2 := u8_or_range hx.1 hx.2 hb.1 hb.2
  rw [u8_or_nat h1.1 h1.2 hb.1 hb.2, u8_or_nat h2.1 h2.2 ha.1 ha.2, u8_or_nat hx.1 hx.2 ha.1 ha.2, u8_or_nat hx.1 hx.2 hb.1 hb.2]
  simp only [Int.toNat_natCast]
  rw [Nat.or_assoc, Nat.or_comm a.toNat, ← Nat.or_assoc]
theorem u8_or_idem {x a : Int} (hx : 0 ≤ x ∧ x < 256) (ha : 0 ≤ a ∧ a < 256) : Go.bits .or .u8 (Go.bits .or .u8 x a) a = Go.bits .or .u8 x a := by
  have h1 := u8_or_range hx.1 hx.2 ha.1 ha.2
  rw [u8_or_nat h1.1 h1.2 ha.1 ha.2, u8_or_nat hx.1 hx.2 ha.1 ha.2]
  simp only [Int.toNat_natCast]
  rw [Nat.or_assoc, Nat.or_self]
theorem mask_range (q : Int) : 0 ≤ (2 : Int) ^ (q % 8).toNat % 256 ∧ (2 : Int) ^ (q % 8).toNat % 256 < 256 := by omega
theorem rd_set_self {xs : List Int} {i : Int} {v : Int} (h : i.toNat < xs.length) : rd (xs.set i.toNat v) i = v := by
  unfold PrintWords.rd
  rw [List.getD_eq_getElem?_getD, List.getElem?_set_self h]
  rfl
theorem rd_set_ne {xs : List Int} {i j : Int} {v : Int} (h : i.toNat ≠ j.toNat) : rd (xs.set i.toNat v) j = rd xs j := by
  unfold PrintWords.rd
  rw [List.getD_eq_getElem?_getD, List.getD_eq_getElem?_getD, List.getElem?_set_ne h]
theorem Byt.set {l : List Int} (h : Byt l) (i : Nat) {v : Int} (hv : 0 ≤ v ∧ v < 256) : Byt (l.set i v) := fun x hx => by
  rcases List.mem_or_eq_of_mem_set hx with h1 | h1
  · exact h x h1
  · rw [h1]; exact hv
theorem mark_byt {xs : List Int} (h : Byt xs) (p : Int) : Byt (bl_mark xs p) := h.set _ (u8_or_range (h.rd _).1 (h.rd _).2 (mask_range p).1 (mask_range p).2)
theorem mark_comm {xs : List Int} (h : Byt xs) (p q : Int) : bl_mark (bl_mark xs p) q = bl_mark (bl_mark xs q) p := by
  unfold bl_mark
  by_cases e : (1 + p / 8).toNat = (1 + q / 8).toNat
  · by_cases hl : (1 + p / 8).toNat < xs.length
    · have a1 : rd (xs.set (1 + p / 8).toNat (Go.bits .or .u8 (rd xs (1 + p / 8)) (2 ^ (p % 8).toNat % 256))) (1 + q / 8) = Go.bits .or .u8 (rd xs (1 + p / 8)) (2 ^ (p % 8).toNat % 256) := by
        rw [e]; exact rd_set_self (by omega)
      have a2 : rd (xs.set (1 + q / 8).toNat (Go.bits .or .u8 (rd xs (1 + q / 8)) (2 ^ (q % 8).toNat % 256))) (1 + p / 8) = Go.bits .or .u8 (rd xs (1 + q / 8)) (2 ^ (q % 8).toNat % 256) := by
        rw [← e]; exact rd_set_self (by omega)
      have a3 : rd xs (1 + q / 8) = rd xs (1 + p / 8) := by unfold PrintWords.rd; rw [e]
      rw [a1, a2, a3, ← e, List.set_set, List.set_set, u8_or_right_comm (h.rd _) (mask_range p) (mask_range q)]
    · have s1 : ∀ v, xs.set (1 + p / 8).toNat v = xs := fun v => List.set_eq_of_length_le (by omega)
      have s2 : ∀ v, xs.set (1 + q / 8).toNat v = xs := fun v => List.set_eq_of_length_le (by omega)
      simp only [s1, s2]
  · rw [rd_set_ne e, rd_set_ne (fun h => e h.symm), List.set_comm _ _ e]
theorem mark_idem {xs : List Int} (h : Byt xs) (p : Int) : bl_mark (bl_mark xs p) p = bl_mark xs p := by
  unfold bl_mark
  by_cases hl : (1 + p / 8).toNat < xs.length
  · rw [rd_set_self hl, List.set_set, u8_or_idem (h.rd _) (mask_range p)]
  · have s1 : ∀ v, xs.set (1 + p / 8).toNat v = xs := fun v => List.set_eq_of_length_le (by omega)
    rw [s1, s1]
def blPlaces (m s : Int) : Nat → Int → List Int
  | 0, _ => []
  | n + 1, h => (h % m) :: blPlaces m s n (IntKind.u64.wrap (h + s))
theorem marks_places (m s : Int) : ∀ (n : Nat) (h : Int) (xs : List Int), bl_marks m s n h xs = (blPlaces m s n h).foldl bl_mark xs
  | 0, _, _ => rfl
  | n + 1, h, xs => by rw [bl_marks, marks_places m s n]; rfl
def keyPlaces (m p : Int) (a : ByteArray) : List Int := blPlaces m (bl_step (hashOf a)) p.toNat (hashOf a)
theorem keyMarks_places (m p : Int) : ∀ (ks : List ByteArray) (xs : List Int), keyMarks m p ks xs = (ks.flatMap (keyPlaces m p)).foldl bl_mark xs
  | [], _ => rfl
  | a :: ks, xs => by
    show keyMarks m p ks (bl_marks m (bl_step (hashOf a)) p.toNat (hashOf a) xs) = _
    rw [keyMarks_places m p ks, List.flatMap_cons, List.foldl_append, marks_places]
    rfl
theorem fold_byt : ∀ (L : List Int) {xs : List Int}, Byt xs → Byt (L.foldl bl_mark xs)
  | [], _, h => h
  | p :: L, _, h => fold_byt L (mark_byt h p)
theorem fold_mark : ∀ (L : List Int) {xs : List Int} (_ : Byt xs) (p : Int), L.foldl bl_mark (bl_mark xs p) = bl_mark (L.foldl bl_mark xs) p
  | [], _, _, _ => rfl
  | q :: L, xs, h, p => by
    show L.foldl bl_mark (bl_mark (bl_mark xs p) q) = bl_mark (L.foldl bl_mark (bl_mark xs q)) p
    rw [mark_comm h, fold_mark L (mark_byt h q) p]
theorem fold_absorb : ∀ (L : List Int) {xs : List Int} (_ : Byt xs) (p : Int), p ∈ L → bl_mark (L.foldl bl_mark xs) p = L.foldl bl_mark xs
  | q :: L, xs, h, p, hp => by
    show bl_mark (L.foldl bl_mark (bl_mark xs q)) p = L.foldl bl_mark (bl_mark xs q)
    rcases List.mem_cons.1 hp with rfl | hp
    · rw [← fold_mark L (mark_byt h p), mark_idem h]
    · exact fold_absorb L (mark_byt h q) p hp
theorem fold_within : ∀ (L' L : List Int) {xs : List Int} (_ : Byt xs), (∀ p ∈ L', p ∈ L) → L'.foldl bl_mark (L.foldl bl_mark xs) = L.foldl bl_mark xs
  | [], _, _, _, _ => rfl
  | p :: L', L, xs, h, hs => by
    show L'.foldl bl_mark (bl_mark (L.foldl bl_mark xs) p) = _
    rw [fold_absorb L h p (hs p (List.mem_cons_self ..))]
    exact fold_within L' L h (fun q hq => hs q (List.mem_cons_of_mem _ hq))
theorem fold_swap : ∀ (L' L : List Int) {xs : List Int} (_ : Byt xs), L'.foldl bl_mark (L.foldl bl_mark xs) = L.foldl bl_mark (L'.foldl bl_mark xs)
  | [], _, _, _ => rfl
  | p :: L', L, xs, h => by
    show L'.foldl bl_mark (bl_mark (L.foldl bl_mark xs) p) = L.foldl bl_mark (L'.foldl bl_mark (bl_mark xs p))
    rw [← fold_mark L h, fold_swap L' L (mark_byt h p)]
theorem fold_same (L L' : List Int) {xs : List Int} (h : Byt xs) (h1 : ∀ p ∈ L, p ∈ L') (h2 : ∀ p ∈ L', p ∈ L) : L.foldl bl_mark xs = L'.foldl bl_mark xs := by
  rw [← fold_within L' L h h2, fold_swap L' L h, fold_within L L' h h1]
theorem init_byt (n : Nat) (b : Int) (h1 : 1 ≤ b) (h2 : b ≤ 16) : Byt ((List.replicate n (0 : Int)).set 0 (bl_pr b)) := by
  have hp := pr_bounds b h1 h2
  refine Byt.set (fun x hx => ?_) _ (by omega)
  rw [List.eq_of_mem_replicate hx]
  omega
theorem makeOf_same (ks ls : List ByteArray) (b : Int) (h1 : 1 ≤ b) (h2 : b ≤ 16) (hl : ls.length = ks.length) (ha : ∀ a ∈ ks, a ∈ ls) (hb : ∀ a ∈ ls, a ∈ ks) : makeOf ks b = makeOf ls b := by
  unfold makeOf
  rw [hl, keyMarks_places, keyMarks_places]
  refine fold_same _ _ (init_byt _ b h1 h2) (fun p hp => ?_) (fun p hp => ?_)
  · obtain ⟨a, h1, h2⟩ := List.mem_flatMap.1 hp
    exact List.mem_flatMap.2 ⟨a, ha a h1, h2⟩
  · obtain ⟨a, h1, h2⟩ := List.mem_flatMap.1 hp
    exact List.mem_flatMap.2 ⟨a, hb a h1, h2⟩

def cutText (a : ByteArray) : ByteArray := a.extract 0 (mn (a.size : Int) 80).toNat
theorem cutText_size (a : ByteArray) : (cutText a).size ≤ 80 := by
  unfold cutText mn
  rw [ByteArray.size_extract]
  split <;> omega
theorem rdOf_at (xs : List ByteArray) (i : Nat) (h : i < xs.length) : rdOf ByteArray.empty xs (i : Int) = xs[i] := by simp [rdOf, List.getD_eq_getElem?_getD, h]
theorem few_l0 (ls : List ByteArray) (hs : ∀ a ∈ ls, a.size ≤ 140737488351232) : ∀ (d i k : Nat) (acc : List ByteArray), i + d = min ls.length 200 → acc.length = i → d + 1 ≤ k → ∃ t, lienlaw11_few.l0 k ls acc (i : Int) = some t ∧ t.length ≤ 200 ∧ ((∀ a ∈ acc, a.size ≤ 80) → ∀ a ∈ t, a.size ≤ 80) ∧ ∀ k', d + 1 ≤ k' → lienlaw11_few.l0 k' ls acc (i : Int) = some t
  | 0, i, k, acc, hi, ha, hk => by
    have key : ∀ k', 0 + 1 ≤ k' → lienlaw11_few.l0 k' ls acc (i : Int) = some acc := fun k' hk' => by
      obtain ⟨k, rfl⟩ : ∃ m, k' = m + 1 := ⟨k' - 1, by omega⟩
      rw [lienlaw11_few.l0]
      by_cases h : (i : Int) < (ls.length : Int)
      · rw [if_pos h, if_neg (by omega)]
      · rw [if_neg h]
    exact ⟨acc, key k hk, by omega, fun h => h, key⟩
  | d + 1, i, k, acc, hi, ha, hk => by
    have hlt : i < ls.length := by omega
    have step : ∀ k', lienlaw11_few.l0 (k' + 1) ls acc (i : Int) = lienlaw11_few.l0 k' ls (acc ++ [cutText ls[i]]) ((i + 1 : Nat) : Int) := fun k' => by
      have hz := hs ls[i] (List.getElem_mem hlt)
      have hm : 0 ≤ mn (ls[i].size : Int) 80 ∧ mn (ls[i].size : Int) 80 ≤ (ls[i].size : Int) := by unfold mn; split <;> omega
      rw [lienlaw11_few.l0, rdOf_at ls i hlt, if_pos (by omega), if_pos (by omega), if_pos (by omega), if_pos hm.1, if_pos hm.2, if_pos (by omega), wrap64_id (by omega) (by omega)]
      rfl
    obtain ⟨k, rfl⟩ : ∃ m, k = m + 1 := ⟨k - 1, by omega⟩
    obtain ⟨t, h1, h2, h3, h4⟩ := few_l0 ls hs d (i + 1) k (acc ++ [cutText ls[i]]) (by omega) (by simp [ha]) (by omega)
    refine ⟨t, by rw [step]; exact h1, h2, fun hacc => h3 (fun a ha => ?_), fun k' hk' => ?_⟩
    · rcases List.mem_append.1 ha with h | h
      · exact hacc a h
      · rw [List.mem_singleton.1 h]; exact cutText_size _
    · obtain ⟨k', rfl⟩ : ∃ m, k' = m + 1 := ⟨k' - 1, by omega⟩
      rw [step]
      exact h4 k' (by omega)
theorem few_ev (ls : List ByteArray) (hs : ∀ a ∈ ls, a.size ≤ 140737488351232) : ∃ t, Ev (fun k => lienlaw11_few.f k ls) t ∧ t.length ≤ 200 ∧ ∀ a ∈ t, a.size ≤ 80 := by
  obtain ⟨t, h1, h2, h3, h4⟩ := few_l0 ls hs (min ls.length 200) 0 (min ls.length 200 + 1) [] (by omega) rfl (by omega)
  exact ⟨t, ⟨min ls.length 200 + 1, fun k hk => h4 k hk⟩, h2, h3 (fun a ha => by cases ha)⟩

theorem ref_Hash_l0 (a : ByteArray) (hs : a.size ≤ 140737488351232) : ∀ (d i k : Nat) (h : Int), i + d = a.size → d + 1 ≤ k → lienref11_Hash.l0 k a h (i : Int) = some (hashGo a d i h)
  | 0, i, k, h, hi, hk => by
    obtain ⟨k, rfl⟩ : ∃ m, k = m + 1 := ⟨k - 1, by omega⟩
    rw [lienref11_Hash.l0, if_neg (by omega)]
    rfl
  | d + 1, i, k, h, hi, hk => by
    obtain ⟨k, rfl⟩ : ∃ m, k = m + 1 := ⟨k - 1, by omega⟩
    rw [lienref11_Hash.l0, if_pos (by omega), if_pos (by omega), wrap64_id (by omega) (by omega), show ((i : Int) + 1) = ((i + 1 : Nat) : Int) by omega]
    exact ref_Hash_l0 a hs d (i + 1) k _ (by omega) (by omega)
theorem ref_Hash_ev (a : ByteArray) (hs : a.size ≤ 140737488351232) : Ev (fun k => lienref11_Hash.f k a) (hashOf a) := ⟨a.size + 1, fun k hk => ref_Hash_l0 a hs a.size 0 k _ (by omega) hk⟩
theorem places_mem {m s : Int} (hm : 0 < m) : ∀ (n : Nat) (h : Int), ∀ q ∈ blPlaces m s n h, 0 ≤ q ∧ q < m
  | 0, _, q, hq => by cases hq
  | n + 1, h, q, hq => by
    rcases List.mem_cons.1 hq with rfl | hq
    · exact ⟨Int.emod_nonneg _ (by omega), Int.emod_lt_of_pos _ hm⟩
    · exact places_mem hm n _ q hq
theorem places_len (m s : Int) : ∀ (n : Nat) (h : Int), (blPlaces m s n h).length = n
  | 0, _ => rfl
  | n + 1, h => by rw [blPlaces, List.length_cons, places_len m s n]
theorem ref_Places_l0 (m s : Int) (hm : 0 < m) (hm2 : m ≤ 65536) (p : Nat) (hp : p ≤ 16) : ∀ (d j : Nat) (h : Int) (acc : List Int), j + d = p → acc.length = j → 0 ≤ h → h < 18446744073709551616 → ∀ k, d + 1 ≤ k → lienref11_Places.l0 k m (p : Int) h s acc (j : Int) = some (acc ++ blPlaces m s d h)
  | 0, j, h, acc, hj, ha, h0, h1, k, hk => by
    obtain ⟨k, rfl⟩ : ∃ m, k = m + 1 := ⟨k - 1, by omega⟩
    rw [lienref11_Places.l0, if_neg (by omega), blPlaces, List.append_nil]
  | d + 1, j, h, acc, hj, ha, h0, h1, k, hk => by
    obtain ⟨k, rfl⟩ : ∃ m, k = m + 1 := ⟨k - 1, by omega⟩
    have w1 : IntKind.u64.wrap m = m := wraps_u64 _ (by omega) (by omega)
    have w2 : Int.tmod h m = h % m := Int.tmod_eq_emod_of_nonneg h0
    have w3 : 0 ≤ h % m ∧ h % m < m := ⟨Int.emod_nonneg _ (by omega), Int.emod_lt_of_pos _ hm⟩
    rw [lienref11_Places.l0, if_pos (by omega), w1, if_neg (by omega), if_pos (by omega), w2, wrap64_id (x := h % m) (by omega) (by omega), wrap64_id (x := (j : Int) + 1) (by omega) (by omega), show ((j : Int) + 1) = ((j + 1 : Nat) : Int) by omega]
    have h2 : 0 ≤ IntKind.u64.wrap (h + s) ∧ IntKind.u64.wrap (h + s) < 18446744073709551616 := by rw [wu64]; omega
    rw [ref_Places_l0 m s hm hm2 p hp d (j + 1) _ (acc ++ [h % m]) (by omega) (by simp [ha]) h2.1 h2.2 k (by omega), blPlaces, List.append_assoc]
    rfl
theorem ref_Places_ev (a : ByteArray) (hs : a.size ≤ 140737488351232) (m : Int) (hm : 0 < m) (hm2 : m ≤ 65536) (p : Int) (hp0 : 0 ≤ p) (hp : p ≤ 16) : Ev (fun k => lienref11_Places.f k a m p) (keyPlaces m p a) := by
  obtain ⟨r0, r1⟩ := hashOf_range a
  obtain ⟨n, rfl⟩ : ∃ n : Nat, p = (n : Int) := ⟨p.toNat, by omega⟩
  have key : ∀ s, Ev (fun k => lienref11_Places.j0 k m (n : Int) (hashOf a) s) (blPlaces m s n (hashOf a)) := fun s => ⟨n + 2, fun k hk => by
    obtain ⟨k, rfl⟩ : ∃ m, k = m + 1 := ⟨k - 1, by omega⟩
    show lienref11_Places.j0 (k + 1) m (n : Int) (hashOf a) s = _
    rw [lienref11_Places.j0]
    exact ref_Places_l0 m s hm hm2 n (by omega) n 0 (hashOf a) [] (by omega) rfl r0 r1 k (by omega)⟩
  unfold lienref11_Places.f
  refine Ev.bind (ref_Hash_ev a hs) ?_
  unfold keyPlaces bl_step
  by_cases c : hashOf a / 8589934592 = 0
  · simp only [if_pos c, Int.toNat_natCast]; exact key 1
  · simp only [if_neg c, Int.toNat_natCast]; exact key _

theorem shl_bit (q : Int) : shl .u8 1 (q % 8) = 2 ^ (q % 8).toNat % 256 := by
  unfold shl
  rw [show min (q % 8).toNat IntKind.u8.bits = (q % 8).toNat by have : IntKind.u8.bits = 8 := rfl; omega, Int.one_mul]
  have e : ∀ z : Int, 0 ≤ z → IntKind.u8.wrap z = z % 256 := fun z _ => by simp [IntKind.wrap, IntKind.bits, IntKind.signed]
  exact e _ (Int.pow_nonneg (by decide))
theorem ref_Make_l1 (ks : List ByteArray) (m p : Int) (i : Int) (ps : List Int) (nb : Nat) (hnb : nb ≤ 8192) (hps : ∀ q ∈ ps, 0 ≤ q ∧ q < 8 * (nb : Int)) (hpl : ps.length ≤ 16) : ∀ (d j : Nat) (xs : List Int), j + d = ps.length → xs.length = nb + 1 → ∀ k, lienref11_Make.l1 (k + d + 1) ks m p xs i ps (j : Int) = lienref11_Make.l0 k ks m p ((ps.drop j).foldl bl_mark xs) (wrap64 (i + 1))
  | 0, j, xs, hj, hx, k => by
    rw [lienref11_Make.l1, if_neg (by omega), List.drop_eq_nil_of_le (by omega)]
    rfl
  | d + 1, j, xs, hj, hx, k => by
    have hlt : j < ps.length := by omega
    obtain ⟨q0, q1⟩ := hps ps[j] (List.getElem_mem hlt)
    have er : rd ps (j : Int) = ps[j] := by rw [rd_nat]; simp [List.getD_eq_getElem?_getD, hlt]
    have w1 : Int.tdiv ps[j] 8 = ps[j] / 8 := Int.tdiv_eq_ediv_of_nonneg q0
    have w2 : Int.tmod ps[j] 8 = ps[j] % 8 := Int.tmod_eq_emod_of_nonneg q0
    have w3 : IntKind.u64.wrap (ps[j] % 8) = ps[j] % 8 := wraps_u64 _ (by omega) (by omega)
    have w4 : wrap64 (ps[j] / 8) = ps[j] / 8 := wrap64_id (by omega) (by omega)
    have w5 : wrap64 (1 + ps[j] / 8) = 1 + ps[j] / 8 := wrap64_id (by omega) (by omega)
    rw [show k + (d + 1) + 1 = (k + d + 1) + 1 by omega, lienref11_Make.l1, if_pos (by omega), if_pos (by omega), er, w1, w2, w3, w4, w5, if_pos (by omega), if_pos (by omega), if_pos (by omega), shl_bit, wrap64_id (x := (j : Int) + 1) (by omega) (by omega), show ((j : Int) + 1) = ((j + 1 : Nat) : Int) by omega]
    have ih := ref_Make_l1 ks m p i ps nb hnb hps hpl d (j + 1) (bl_mark xs ps[j]) (by omega) (by rw [mark_len]; exact hx) k
    rw [List.drop_eq_getElem_cons hlt]
    exact ih
theorem ref_Make_l0 (ks : List ByteArray) (hz : ∀ a ∈ ks, a.size ≤ 140737488351232) (hl : ks.length ≤ 4096) (nb : Nat) (h8 : 1 ≤ nb) (hnb : nb ≤ 8192) (p : Int) (hp0 : 0 ≤ p) (hp : p ≤ 16) : ∀ (d i : Nat) (xs : List Int), i + d = ks.length → xs.length = nb + 1 → Ev (fun k => lienref11_Make.l0 k ks (8 * (nb : Int)) p xs (i : Int)) (keyMarks (8 * (nb : Int)) p (ks.drop i) xs, 0)
  | 0, i, xs, hi, hx => by
    refine Ev.step (fun k => by rw [lienref11_Make.l0]) ?_
    simp only [if_neg (show ¬ (i : Int) < (ks.length : Int) by omega)]
    rw [List.drop_eq_nil_of_le (by omega)]
    exact Ev.now _
  | d + 1, i, xs, hi, hx => by
    have hlt : i < ks.length := by omega
    refine Ev.step (fun k => by rw [lienref11_Make.l0]) ?_
    simp only [if_pos (show (i : Int) < (ks.length : Int) by omega), if_pos (show (0 : Int) ≤ (i : Int) by omega), rdOf_at ks i hlt]
    refine Ev.bind (ref_Places_ev ks[i] (hz _ (List.getElem_mem hlt)) (8 * (nb : Int)) (by omega) (by omega) p hp0 hp) ?_
    have ih := ref_Make_l0 ks hz hl nb h8 hnb p hp0 hp d (i + 1) ((keyPlaces (8 * (nb : Int)) p ks[i]).foldl bl_mark xs) (by omega) (by rw [show (keyPlaces (8 * (nb : Int)) p ks[i]).foldl bl_mark xs = bl_marks (8 * (nb : Int)) (bl_step (hashOf ks[i])) p.toNat (hashOf ks[i]) xs from (marks_places _ _ _ _ _).symm, marks_len]; exact hx)
    obtain ⟨K, hK⟩ := ih
    have hpl : (keyPlaces (8 * (nb : Int)) p ks[i]).length = p.toNat := places_len _ _ _ _
    refine ⟨K + p.toNat + 1, fun k hk => ?_⟩
    obtain ⟨k', rfl⟩ : ∃ k', k = k' + p.toNat + 1 := ⟨k - p.toNat - 1, by omega⟩
    have l1 := ref_Make_l1 ks (8 * (nb : Int)) p (i : Int) (keyPlaces (8 * (nb : Int)) p ks[i]) nb hnb (places_mem (by omega) _ _) (by omega) p.toNat 0 xs (by omega) hx k'
    rw [wrap64_id (by omega) (by omega), show ((i : Int) + 1) = ((i + 1 : Nat) : Int) by omega, List.drop_zero] at l1
    rw [List.drop_eq_getElem_cons hlt]
    refine l1.trans ((hK k' (by omega)).trans ?_)
    rw [show (keyPlaces (8 * (nb : Int)) p ks[i]).foldl bl_mark xs = bl_marks (8 * (nb : Int)) (bl_step (hashOf ks[i])) p.toNat (hashOf ks[i]) xs from (marks_places _ _ _ _ _).symm]
    rfl
theorem ref_Make_ev (ks : List ByteArray) (b : Int) (hn : ks.length ≤ 200) (h1 : 1 ≤ b) (h2 : b ≤ 16) (hz : ∀ a ∈ ks, a.size ≤ 140737488351232) : Ev (fun k => lienref11_Make.f k ks b) (makeOf ks b, 0) := by
  unfold lienref11_Make.f
  have hb := nb_bounds ks.length b (by omega) h1 h2
  have hp := pr_bounds b h1 h2
  have hp0 : 0 ≤ (ks.length : Int) * b := Int.mul_nonneg (by omega) (by omega)
  have hp1 : (ks.length : Int) * b ≤ 65536 := Int.le_trans (Int.mul_le_mul (show (ks.length : Int) ≤ 4096 by omega) (show b ≤ 16 by omega) (by omega) (by omega)) (by decide)
  simp only [if_neg (show ¬ b < 1 by omega), decide_eq_false (show ¬ b > 16 by omega)]
  refine Ev.step (fun k => by rw [lienref11_Make.j0]) ?_
  simp only [Bool.false_eq_true, if_false, if_neg (show ¬ (ks.length : Int) > 4096 by omega)]
  rw [wrap64_id (x := (ks.length : Int) * b) (by omega) (by omega), wrap64_id (x := (ks.length : Int) * b + 7) (by omega) (by omega), Int.tdiv_eq_ediv_of_nonneg (by omega), wrap64_id (x := ((ks.length : Int) * b + 7) / 8) (by omega) (by omega), wrap64_id (x := ((ks.length : Int) * b + 7) / 8 * 8) (by omega) (by omega), hb.2.2, wrap64_id (x := b * 7) (by omega) (by omega), Int.tdiv_eq_ediv_of_nonneg (by omega), wrap64_id (x := b * 7 / 10) (by omega) (by omega), show mx 1 (b * 7 / 10) = bl_pr b from rfl, show 8 * (bl_nb ks.length b : Int) / 8 = (bl_nb ks.length b : Int) by omega, wrap64_id (x := (bl_nb ks.length b : Int)) (by omega) (by omega), wrap64_id (x := 1 + (bl_nb ks.length b : Int)) (by omega) (by omega), show (1 + (bl_nb ks.length b : Int)).toNat = bl_nb ks.length b + 1 by omega, show bl_pr b % 256 = bl_pr b by omega]
  simp only [if_pos (show (0 : Int) ≤ 1 + (bl_nb ks.length b : Int) by omega), if_pos (show bl_nb ks.length b + 1 ≤ 281474976710656 by omega), Option.bind_some, List.length_replicate, if_pos (show (0 : Int) < ((bl_nb ks.length b + 1 : Nat) : Int) by omega), Int.toNat_zero]
  exact ref_Make_l0 ks hz (by omega) (bl_nb ks.length b) (by omega) hb.2.1 (bl_pr b) (by omega) (by omega) ks.length 0 _ (by omega) (by rw [List.length_set, List.length_replicate])

theorem make_both (ks : List ByteArray) (b : Int) (hn : ks.length ≤ 200) (hz : ∀ a ∈ ks, a.size ≤ 140737488351232) : ∃ r, bloom_Make.f ks b = some r ∧ Ev (fun k => lienref11_Make.f k ks b) r := by
  by_cases c1 : b < 1
  · refine ⟨([], 110), ?_, ?_⟩
    · unfold bloom_Make.f; rw [if_pos c1]
    · unfold lienref11_Make.f
      simp only [if_pos c1]
      exact Ev.step (fun k => by rw [lienref11_Make.j0]) (by simp only [if_true]; exact Ev.now _)
  · by_cases c2 : 16 < b
    · refine ⟨([], 110), ?_, ?_⟩
      · unfold bloom_Make.f; rw [if_neg c1, if_pos c2]
      · unfold lienref11_Make.f
        simp only [if_neg c1, decide_eq_true (show b > 16 from c2)]
        exact Ev.step (fun k => by rw [lienref11_Make.j0]) (by simp only [if_true]; exact Ev.now _)
    · exact ⟨(makeOf ks b, 0), Make_some ks b (by omega) (by omega) (by omega) hz, ref_Make_ev ks b hn (by omega) (by omega) hz⟩
theorem BloomMakes : lienlaw11_BloomMakes.Pure := by
  intro ls b key hl hb hk
  obtain ⟨ks, e, h1, h2⟩ := few_ev ls hl.2.2
  refine Ev.rounds ?_
  unfold lienlaw11_BloomMakes.f
  refine Ev.bind e ?_
  obtain ⟨r, r1, r2⟩ := make_both ks b h1 (fun a h => by have := h2 a h; omega)
  simp only [r1, Option.bind_some]
  refine Ev.bind r2 ?_
  simp only [if_true]
  refine Ev.bind (a := hashOf key) ⟨key.size + 1, fun k h => bloom_Hash_at key hk k h⟩ ?_
  refine Ev.bind (ref_Hash_ev key hk) ?_
  simp only [if_true]
  exact Ev.bind awake11 (Ev.now true)

end Go.Proofs.Ytlehgphnjpgjnaa.Pure
