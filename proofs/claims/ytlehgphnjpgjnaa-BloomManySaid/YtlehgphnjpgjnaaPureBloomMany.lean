/- Written for the statement BloomMany over the program's printed functions: numbers and lists alone. -/
import Derived.Test.YtlehgphnjpgjnaaPBloomManyx
set_option linter.unusedVariables false
set_option linter.unusedSimpArgs false
namespace Go.Proofs.Ytlehgphnjpgjnaa.Pure
open Go.RowKit Go.Proofs.Ytlehgphnjpgjnaa.PBloomMany Go.Proofs.YtlehgphnjpgjnaaW Go.Proofs.YtlehgphnjpgjnaaW.PrintWords Go.Proofs.YtlehgphnjpgjnaaW.PrintLast Go.Proofs.YtlehgphnjpgjnaaW.PrintMore

theorem wrap64_id {x : Int} (h0 : -9223372036854775808 ≤ x) (h1 : x ≤ 9223372036854775807) : wrap64 x = x := by unfold wrap64; omega
theorem wu64 (n : Int) : IntKind.u64.wrap n = n % 18446744073709551616 := by simp [IntKind.wrap, IntKind.bits, IntKind.signed]
theorem wraps_u64 (n : Int) (h0 : 0 ≤ n) (h1 : n < 2 ^ 64) : IntKind.u64.wrap n = n := by rw [wu64]; omega
theorem u64_and127 {x : Int} (h0 : 0 ≤ x) (h1 : x < 18446744073709551616) : Go.bits .and .u64 x 127 = x % 128 := Go.bits_mask .u64 64 (by decide) wraps_u64 7 (by decide) x h0 h1
theorem u8_and127 {x : Int} (h0 : 0 ≤ x) (h1 : x < 256) : Go.bits .and .u8 x 127 = x % 128 := Go.bits_mask .u8 8 (by decide) Go.wraps_u8 7 (by decide) x h0 h1
theorem bits_comm_or (k : IntKind) (x y : Int) : Go.bits .or k x y = Go.bits .or k y x := by simp [Go.bits, BitVec.or_comm]
theorem u8_or_128 {x : Int} (h0 : 0 ≤ x) (h1 : x < 128) : Go.bits .or .u8 x 128 = x + 128 := by
  rw [bits_comm_or, Go.bits_join .u8 8 (by decide) Go.wraps_u8 7 128 x (by decide) (by decide) (by decide) h0 h1 (by omega)]; omega
theorem u64_join (i : Nat) {x y : Int} (hx0 : 0 ≤ x) (hx : x % 2 ^ i = 0) (hx1 : x < 18446744073709551616) (hy0 : 0 ≤ y) (hy : y < 2 ^ i) (hy1 : y < 18446744073709551616) : Go.bits .or .u64 x y = x + y :=
  Go.bits_join .u64 64 (by decide) wraps_u64 i x y hx0 hx hx1 hy0 hy hy1
theorem wf_u64 {x : Int} (h : (Lit.int .u64 x).wf = true) : 0 ≤ x ∧ x < 18446744073709551616 := by
  simp [Lit.wf, IntKind.min, IntKind.max, IntKind.bits, IntKind.signed] at h; omega
theorem wf_u8 {x : Int} (h : (Lit.int .u8 x).wf = true) : 0 ≤ x ∧ x < 256 := by
  simp [Lit.wf, IntKind.min, IntKind.max, IntKind.bits, IntKind.signed] at h; omega
theorem wf_i64 {x : Int} (h : (Lit.int .i64 x).wf = true) : -9223372036854775808 ≤ x ∧ x ≤ 9223372036854775807 := by
  simp [Lit.wf, IntKind.min, IntKind.max, IntKind.bits, IntKind.signed] at h; omega
def Byt (l : List Int) : Prop := ∀ x ∈ l, 0 ≤ x ∧ x < 256
theorem Byt.of_wf {l : List Int} (h : ∀ x ∈ l, (Lit.int .u8 x).wf = true) : Byt l := fun x hx => wf_u8 (h x hx)
theorem Byt.rd {l : List Int} (h : Byt l) (i : Int) : 0 ≤ rd l i ∧ rd l i < 256 := by
  unfold PrintWords.rd
  rw [List.getD_eq_getElem?_getD]
  cases e : l[i.toNat]? with
  | none => simp
  | some x => exact h x (List.mem_of_getElem? e)
theorem Byt.take {l : List Int} (h : Byt l) (n : Nat) : Byt (l.take n) := fun x hx => h x (List.mem_of_mem_take hx)
theorem Byt.drop {l : List Int} (h : Byt l) (n : Nat) : Byt (l.drop n) := fun x hx => h x (List.mem_of_mem_drop hx)
theorem rd_nat (l : List Int) (i : Nat) : rd l (i : Int) = l.getD i 0 := by unfold PrintWords.rd; simp
theorem rd_drop {l : List Int} {i : Nat} (h : i < l.length) : l.drop i = rd l (i : Int) :: l.drop (i + 1) := by
  rw [rd_nat, List.drop_eq_getElem_cons h]; simp [List.getD_eq_getElem?_getD, List.getElem?_eq_getElem h]

theorem bits_u64_range (op : BinOp) (x y : Int) : 0 ≤ Go.bits op .u64 x y ∧ Go.bits op .u64 x y < 18446744073709551616 := by
  unfold Go.bits
  rw [wu64]
  omega
def hashEnd (h : Int) : Int := Go.bits .xor .u64 (IntKind.u64.wrap ((Go.bits .xor .u64 h (h / 2147483648)) * 10723151780598845931)) ((IntKind.u64.wrap ((Go.bits .xor .u64 h (h / 2147483648)) * 10723151780598845931)) / 536870912)
def hashGo (a : ByteArray) : Nat → Nat → Int → Int
  | 0, _, h => hashEnd h
  | d + 1, i, h => hashGo a d (i + 1) (IntKind.u64.wrap ((Go.bits .xor .u64 h (IntKind.u64.wrap (bt a (i : Int)))) * 13787848793156543929))
def hashOf (a : ByteArray) : Int := hashGo a a.size 0 11400714819323198485
theorem hashGo_range (a : ByteArray) : ∀ (d i : Nat) (h : Int), 0 ≤ hashGo a d i h ∧ hashGo a d i h < 18446744073709551616
  | 0, _, _ => by unfold hashGo hashEnd; exact bits_u64_range _ _ _
  | d + 1, i, h => hashGo_range a d (i + 1) _
theorem hashOf_range (a : ByteArray) : 0 ≤ hashOf a ∧ hashOf a < 18446744073709551616 := hashGo_range a _ _ _
theorem bloom_Hash_l0 (a : ByteArray) (hs : a.size ≤ 140737488351232) : ∀ (d i k : Nat) (h : Int), i + d = a.size → d + 1 ≤ k → bloom_Hash.l0 k a h (a.size : Int) (i : Int) = some (hashGo a d i h)
  | 0, i, k, h, hi, hk => by
    obtain ⟨k, rfl⟩ : ∃ m, k = m + 1 := ⟨k - 1, by omega⟩
    rw [bloom_Hash.l0, if_neg (by omega)]
    rfl
  | d + 1, i, k, h, hi, hk => by
    obtain ⟨k, rfl⟩ : ∃ m, k = m + 1 := ⟨k - 1, by omega⟩
    rw [bloom_Hash.l0, if_pos (by omega), if_pos (by omega), if_pos (by omega), wrap64_id (by omega) (by omega), show ((i : Int) + 1) = ((i + 1 : Nat) : Int) by omega]
    exact bloom_Hash_l0 a hs d (i + 1) k _ (by omega) (by omega)
theorem bloom_Hash_at (a : ByteArray) (hs : a.size ≤ 140737488351232) (k : Nat) (hk : a.size + 1 ≤ k) : bloom_Hash.f k a = some (hashOf a) := bloom_Hash_l0 a hs a.size 0 k _ (by omega) hk
def keyMarks (m p : Int) (ks : List ByteArray) (xs : List Int) : List Int := ks.foldl (fun xs a => bl_marks m (bl_step (hashOf a)) p.toNat (hashOf a) xs) xs
theorem keys_some (m p : Int) : ∀ (ks : List ByteArray) (xs : List Int), (∀ a ∈ ks, a.size ≤ 140737488351232) → bl_keys m p ks xs = some (keyMarks m p ks xs)
  | [], xs, _ => rfl
  | a :: ks, xs, h => by
    rw [bl_keys, bloom_Hash_at a (h a (List.mem_cons_self ..)) _ (Nat.le_refl _), Option.bind_some, if_pos (hashOf_range a).1]
    exact keys_some m p ks _ (fun b hb => h b (List.mem_cons_of_mem _ hb))
theorem mark_len (xs : List Int) (p : Int) : (bl_mark xs p).length = xs.length := by unfold bl_mark; exact List.length_set ..
theorem marks_len (m s : Int) : ∀ (n : Nat) (h : Int) (xs : List Int), (bl_marks m s n h xs).length = xs.length
  | 0, _, _ => rfl
  | n + 1, h, xs => by rw [bl_marks, marks_len m s n, mark_len]
theorem keyMarks_len (m p : Int) : ∀ (ks : List ByteArray) (xs : List Int), (keyMarks m p ks xs).length = xs.length
  | [], _ => rfl
  | a :: ks, xs => by
    show (keyMarks m p ks _).length = _
    rw [keyMarks_len m p ks, marks_len]
theorem nb_bounds (n : Nat) (b : Int) (hn : n ≤ 4096) (h1 : 1 ≤ b) (h2 : b ≤ 16) : 8 ≤ bl_nb n b ∧ bl_nb n b ≤ 8192 ∧ mx 64 (((n : Int) * b + 7) / 8 * 8) = 8 * (bl_nb n b : Int) := by
  have hp0 : 0 ≤ (n : Int) * b := Int.mul_nonneg (by omega) (by omega)
  have hp1 : (n : Int) * b ≤ 65536 := Int.le_trans (Int.mul_le_mul (show (n : Int) ≤ 4096 by omega) (show b ≤ 16 by omega) (by omega) (by omega)) (by decide)
  unfold bl_nb mx
  split <;> omega
theorem pr_bounds (b : Int) (h1 : 1 ≤ b) (h2 : b ≤ 16) : 1 ≤ bl_pr b ∧ bl_pr b ≤ 11 := by
  unfold bl_pr mx
  split <;> omega
def makeOf (ks : List ByteArray) (b : Int) : List Int := keyMarks (8 * (bl_nb ks.length b : Int)) (bl_pr b) ks ((List.replicate (bl_nb ks.length b + 1) 0).set 0 (bl_pr b))
theorem Make_some (ks : List ByteArray) (b : Int) (hn : ks.length ≤ 4096) (h1 : 1 ≤ b) (h2 : b ≤ 16) (hs : ∀ a ∈ ks, a.size ≤ 140737488351232) : bloom_Make.f ks b = some (makeOf ks b, 0) := by
  unfold bloom_Make.f
  rw [if_neg (by omega), if_neg (by omega), if_neg (by omega), keys_some _ _ _ _ hs]
  rfl
theorem makeOf_len (ks : List ByteArray) (b : Int) : (makeOf ks b).length = bl_nb ks.length b + 1 := by
  unfold makeOf
  rw [keyMarks_len, List.length_set, List.length_replicate]

theorem awake11o : lienlaw11_awake.f = some true := by kernel_rfl
theorem awake11 : Ev (fun _ => lienlaw11_awake.f) true := by rw [awake11o]; exact Ev.now true

theorem BloomMany : lienlaw11_BloomMany.Pure := by
  intro a0 ha
  obtain ⟨a1, a2⟩ := wf_u8 ha
  unfold lienlaw11_BloomMany.f
  rw [wrap64_id (x := a0) (by omega) (by omega), wrap64_id (x := 3996 + a0) (by omega) (by omega)]
  obtain ⟨n, hn⟩ : ∃ n : Nat, 3996 + a0 = (n : Int) := ⟨(3996 + a0).toNat, by omega⟩
  rw [hn]
  simp only [if_pos (show (0 : Int) ≤ (n : Int) by omega), Int.toNat_natCast, if_pos (show n ≤ 17592186044416 by omega), Option.bind_some, List.length_replicate]
  by_cases h : (n : Int) > 4096
  · have e : bloom_Make.f (List.replicate n (⟨#[]⟩ : ByteArray)) 1 = some ([], 3) := by
      unfold bloom_Make.f
      rw [if_neg (by decide), if_neg (by decide), List.length_replicate, if_pos h]
    simp only [e, Option.bind_some, if_pos h, List.length_nil, Int.natCast_zero, if_true]
    rw [awake11o, Option.bind_some]
  · have e := Make_some (List.replicate n (⟨#[]⟩ : ByteArray)) 1 (by rw [List.length_replicate]; omega) (by decide) (by decide) (fun a ha => by rw [List.eq_of_mem_replicate ha]; exact Nat.zero_le _)
    have hl : ((makeOf (List.replicate n (⟨#[]⟩ : ByteArray)) 1).length : Int) = wrap64 (1 + wrap64 (Int.tdiv (wrap64 ((n : Int) + 7)) 8)) := by
      rw [makeOf_len, List.length_replicate, wrap64_id (x := (n : Int) + 7) (by omega) (by omega), Int.tdiv_eq_ediv_of_nonneg (by omega), wrap64_id (x := ((n : Int) + 7) / 8) (by omega) (by omega), wrap64_id (by omega) (by omega)]
      have := (nb_bounds n 1 (by omega) (by decide) (by decide)).2.2
      rw [Int.mul_one] at this
      unfold mx at this
      rw [if_pos (by omega)] at this
      omega
    generalize makeOf (List.replicate n (⟨#[]⟩ : ByteArray)) 1 = M at e hl
    rw [e, Option.bind_some, if_neg h, if_pos rfl, if_pos hl, awake11o, Option.bind_some]

end Go.Proofs.Ytlehgphnjpgjnaa.Pure
