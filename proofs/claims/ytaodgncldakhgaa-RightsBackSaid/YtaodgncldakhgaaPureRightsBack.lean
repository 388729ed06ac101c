/- Written for the statement RightsBack over the program's printed functions: numbers and lists alone. -/
import Derived.Test.YtaodgncldakhgaaPRightsBackx
set_option linter.unusedVariables false
set_option linter.unusedSimpArgs false
namespace Go.Proofs.Ytaodgncldakhgaa.Pure
open Go.RowKit Go.Proofs.Ytaodgncldakhgaa.PRightsBack Go.Proofs.YtaodgncldakhgaaW Go.Proofs.YtaodgncldakhgaaW.PrintWords Go.Proofs.YtaodgncldakhgaaW.PrintLast Go.Proofs.YtaodgncldakhgaaW.PrintMore

theorem wrap64_id {x : Int} (h0 : -9223372036854775808 ≤ x) (h1 : x ≤ 9223372036854775807) : wrap64 x = x := by unfold wrap64; omega
theorem wu64 (n : Int) : IntKind.u64.wrap n = n % 18446744073709551616 := by simp [IntKind.wrap, IntKind.bits, IntKind.signed]
theorem wraps_u64 (n : Int) (h0 : 0 ≤ n) (h1 : n < 2 ^ 64) : IntKind.u64.wrap n = n := by rw [wu64]; omega
theorem u64_and127 {x : Int} (h0 : 0 ≤ x) (h1 : x < 18446744073709551616) : Go.bits .and .u64 x 127 = x % 128 := Go.bits_mask .u64 64 (by decide) wraps_u64 7 (by decide) x h0 h1
theorem u8_and127 {x : Int} (h0 : 0 ≤ x) (h1 : x < 256) : Go.bits .and .u8 x 127 = x % 128 := Go.bits_mask .u8 8 (by decide) Go.wraps_u8 7 (by decide) x h0 h1
theorem bits_comm_or (k : IntKind) (x y : Int) : Go.bits .or k x y = Go.bits .or k y x := by simp [Go.bits, BitVec.or_comm]
theorem u8_or_128 {x : Int} (h0 : 0 ≤ x) (h1 : x < 128) : Go.bits .or .u8 x 128 = x + 128 := by
  rw [bits_comm_or, Go.bits_join .u8 8 (by decide) Go.wraps_u8 7 128 x (by decide) (by decide) (by decide) h0 h1 (by omega)]; omega
theorem u64_join (i : Nat) {x y : Int} (hx0 : 0 ≤ x) (hx : x % 2 ^ i = 0) (hx1 : x < 18446744073709551616) (hy0 : 0 ≤ y) (hy : y < 2 ^ i) (hy1 : y < 18446744073709551616) : Go.bits .or .u64 x y = x + y :=
  Go.bits_join .u64 64 (by decide) wraps_u64 i x y hx0 hx hx1 hy0 hy hy1
theorem wf_u64 {x : Int} (h : (Lit.int .u64 x).wf = true) : 0 ≤ x ∧ x < 18446744073709551616 := by
  simp [Lit.wf, IntKind.min, IntKind.max, IntKind.bits, IntKind.signed] at h; omega
theorem wf_u8 {x : Int} (h : (Lit.int .u8 x).wf = true) : 0 ≤ x ∧ x < 256 := by
  simp [Lit.wf, IntKind.min, IntKind.max, IntKind.bits, IntKind.signed] at h; omega
theorem wf_i64 {x : Int} (h : (Lit.int .i64 x).wf = true) : -9223372036854775808 ≤ x ∧ x ≤ 9223372036854775807 := by
  simp [Lit.wf, IntKind.min, IntKind.max, IntKind.bits, IntKind.signed] at h; omega
def Byt (l : List Int) : Prop := ∀ x ∈ l, 0 ≤ x ∧ x < 256
theorem Byt.of_wf {l : List Int} (h : ∀ x ∈ l, (Lit.int .u8 x).wf = true) : Byt l := fun x hx => wf_u8 (h x hx)
theorem Byt.rd {l : List Int} (h : Byt l) (i : Int) : 0 ≤ rd l i ∧ rd l i < 256 := by
  unfold PrintWords.rd
  rw [List.getD_eq_getElem?_getD]
  cases e : l[i.toNat]? with
  | none => simp
  | some x => exact h x (List.mem_of_getElem? e)
theorem Byt.take {l : List Int} (h : Byt l) (n : Nat) : Byt (l.take n) := fun x hx => h x (List.mem_of_mem_take hx)
theorem Byt.drop {l : List Int} (h : Byt l) (n : Nat) : Byt (l.drop n) := fun x hx => h x (List.mem_of_mem_drop hx)
theorem rd_nat (l : List Int) (i : Nat) : rd l (i : Int) = l.getD i 0 := by unfold PrintWords.rd; simp
theorem rd_drop {l : List Int} {i : Nat} (h : i < l.length) : l.drop i = rd l (i : Int) :: l.drop (i + 1) := by
  rw [rd_nat, List.drop_eq_getElem_cons h]; simp [List.getD_eq_getElem?_getD, List.getElem?_eq_getElem h]

def numEnc (n : Nat) : List Int := if n < 128 then [(n : Int)] else ((n % 128 + 128 : Nat) : Int) :: numEnc (n / 128)
theorem numEnc_lt {n : Nat} (h : n < 128) : numEnc n = [(n : Int)] := by rw [numEnc, if_pos h]
theorem numEnc_ge {n : Nat} (h : ¬ n < 128) : numEnc n = ((n % 128 + 128 : Nat) : Int) :: numEnc (n / 128) := by rw [numEnc, if_neg h]
theorem numEnc_byt (n : Nat) : Byt (numEnc n) := by
  induction n using Nat.strongRecOn with
  | _ n ih =>
    by_cases h : n < 128
    · rw [numEnc_lt h]; intro x hx; simp at hx; omega
    · rw [numEnc_ge h]; intro x hx
      rcases List.mem_cons.mp hx with rfl | hx
      · omega
      · exact ih (n / 128) (by omega) x hx
theorem numEnc_len (n : Nat) : ∀ d, n < 128 ^ (d + 1) → (numEnc n).length ≤ d + 1 := by
  induction n using Nat.strongRecOn with
  | _ n ih =>
    intro d hd
    by_cases h : n < 128
    · rw [numEnc_lt h]; simp
    · rw [numEnc_ge h]
      cases d with
      | zero => omega
      | succ d =>
        have := ih (n / 128) (by omega) d (by rw [Nat.pow_succ] at hd; exact Nat.div_lt_of_lt_mul (by omega))
        simp; omega
theorem numEnc_pos (n : Nat) : 0 < (numEnc n).length := by
  by_cases h : n < 128
  · rw [numEnc_lt h]; simp
  · rw [numEnc_ge h]; simp

theorem bl_eq (s : ByteArray) : s.toList = s.data.toList := ByteArray.toList_eq s
theorem ba_ext {a b : ByteArray} (h : a.toList = b.toList) : a = b := by
  rw [bl_eq, bl_eq] at h
  exact ByteArray.ext (Array.toList_inj.mp h)
theorem bl_len (s : ByteArray) : s.toList.length = s.size := by rw [bl_eq, Array.length_toList]; rfl
theorem bl_append (a b : ByteArray) : (a ++ b).toList = a.toList ++ b.toList := by rw [bl_eq, bl_eq, bl_eq, ByteArray.data_append, Array.toList_append]
theorem bl_extract (a : ByteArray) (i j : Nat) : (a.extract i j).toList = (a.toList.take j).drop i := by
  rw [bl_eq, bl_eq, ByteArray.data_extract, Array.toList_extract, List.extract_eq_take_drop, List.drop_take]
theorem bl_nums (xs : List Int) : (strOfNums xs).toList = xs.map fun n => UInt8.ofNat n.toNat := by rw [bl_eq]; rfl
theorem bt_nat (s : ByteArray) (i : Nat) (h : i < s.size) : bt s (i : Int) = ((s.toList[i]'(by rw [bl_len]; exact h)).toNat : Int) := by
  unfold PrintWords.bt
  rw [dif_pos (by simpa using h)]
  simp only [Int.toNat_natCast, bl_eq]
  rfl
theorem bl_bytesOf (s : ByteArray) : bytesOf s = s.toList.map fun b => (b.toNat : Int) := by unfold PrintWords.bytesOf; rw [bl_eq]
theorem less_app (p x y : List UInt8) : Op.bytesLess (p ++ x) (p ++ y) = Op.bytesLess x y := by
  induction p with
  | nil => rfl
  | cons c t ih => simp [Op.bytesLess, ih, UInt8.lt_irrefl]
theorem less_next {c d : UInt8} (h : c.toNat < d.toNat) (x y : List UInt8) : Op.bytesLess (c :: x) (d :: y) = true := by
  simp only [Op.bytesLess]
  rw [decide_eq_true (UInt8.lt_iff_toNat_lt.mpr h)]
  rfl

theorem code_Num_l0 (n : Nat) : ∀ (k : Nat) (acc : List Int), n < 18446744073709551616 → (numEnc n).length ≤ k → acc.length + (numEnc n).length < 140737488355328 → code_Num.l0 k (n : Int) acc = some (acc ++ numEnc n) := by
  induction n using Nat.strongRecOn with
  | _ n ih =>
    intro k acc hn hk hl
    have hp := numEnc_pos n
    obtain ⟨k, rfl⟩ : ∃ m, k = m + 1 := ⟨k - 1, by omega⟩
    by_cases h : n < 128
    · rw [numEnc_lt h] at hl ⊢
      simp only [code_Num.l0]
      rw [if_neg (by omega), if_pos (by simp at hl; omega)]
      rw [show (n : Int) % 256 = n by omega]
    · rw [numEnc_ge h] at hl hk ⊢
      simp only [List.length_cons] at hl hk
      simp only [code_Num.l0]
      rw [if_pos (by omega), if_pos (by omega)]
      rw [u64_and127 (by omega) (by omega), u8_or_128 (by omega) (by omega)]
      have := ih (n / 128) (by omega) k (acc ++ [((n % 128 + 128 : Nat) : Int)]) (by omega) (by omega) (by simp; omega)
      rw [show ((n : Int) / 128) = ((n / 128 : Nat) : Int) by omega, show ((n : Int) % 128 % 256 + 128) = ((n % 128 + 128 : Nat) : Int) by omega, this]
      simp
theorem len10 {n : Nat} (h : n < 18446744073709551616) : (numEnc n).length ≤ 10 := numEnc_len n 9 (by omega)
theorem code_Num_ev (n : Int) (h0 : 0 ≤ n) (h1 : n < 18446744073709551616) : Ev (fun k => code_Num.f k n) (numEnc n.toNat) := by
  refine ⟨10, fun k hk => ?_⟩
  have hl := len10 (n := n.toNat) (by omega)
  have := code_Num_l0 n.toNat k [] (by omega) (by omega) (by simp; omega)
  rw [Int.toNat_of_nonneg h0] at this
  unfold code_Num.f; simpa using this

def dec : Nat → List Int → Option (Nat × List Int)
  | _, [] => none
  | i, c :: t => if 10 ≤ i ∨ (i = 9 ∧ c > 1) then none else if c < 128 then (if c = 0 ∧ 0 < i then none else some (c.toNat, t)) else (dec (i + 1) t).map fun p => ((c % 128).toNat + 128 * p.1, p.2)
def decRes (n i : Nat) : Option (Nat × List Int) → Int × List Int × Bool
  | none => (0, [], false)
  | some (v, r) => (((n + 2 ^ (7 * i) * v : Nat) : Int), r, true)
theorem dec_ten (l : List Int) (i : Nat) (h : 10 ≤ i) : dec i l = none := by
  cases l with
  | nil => rfl
  | cons c t => rw [dec, if_pos (.inl h)]
theorem pow7_succ (i : Nat) : 2 ^ (7 * (i + 1)) = 2 ^ (7 * i) * 128 := by rw [Nat.mul_add, Nat.pow_add]
theorem pow7_le {i : Nat} (h : i ≤ 9) : 2 ^ (7 * i) ≤ 9223372036854775808 := Nat.le_trans (Nat.pow_le_pow_right (by decide) (show 7 * i ≤ 63 by omega)) (by decide)
theorem pow7_le8 {i : Nat} (h : i ≤ 8) : 2 ^ (7 * i) ≤ 72057594037927936 := Nat.le_trans (Nat.pow_le_pow_right (by decide) (show 7 * i ≤ 56 by omega)) (by decide)
/-- The seven bits of one byte, put in their place. -/
theorem take_step {n i : Nat} {c : Int} (hn : n < 2 ^ (7 * i)) (hi : i ≤ 9) (h0 : 0 ≤ c) (h1 : c < 256) (h9 : i = 9 → c ≤ 1) :
    Go.bits .or .u64 (n : Int) (shl .u64 (IntKind.u64.wrap (Go.bits .and .u8 c 127)) (IntKind.u64.wrap (7 * (IntKind.u64.wrap (i : Int))))) = ((n + 2 ^ (7 * i) * (c % 128).toNat : Nat) : Int) := by
  rw [u8_and127 h0 h1, wu64 (c % 128), wu64 (i : Int), wu64 (7 * _)]
  rw [show c % 128 % 18446744073709551616 = c % 128 by omega, show (7 * ((i : Int) % 18446744073709551616)) % 18446744073709551616 = ((7 * i : Nat) : Int) by omega]
  unfold shl
  rw [Int.toNat_natCast, Nat.min_eq_left (by simp [IntKind.bits]; omega), wu64]
  obtain ⟨m, hm⟩ : ∃ m : Nat, c % 128 = (m : Int) := ⟨(c % 128).toNat, by omega⟩
  rw [hm, Int.toNat_natCast]
  have hp := pow7_le hi
  have hlt : 2 ^ (7 * i) * m < 18446744073709551616 := by
    by_cases e : i = 9
    · subst e
      have := h9 rfl
      have : m ≤ 1 := by omega
      have h2 : 2 ^ (7 * 9) * m ≤ 2 ^ (7 * 9) * 1 := Nat.mul_le_mul_left _ this
      omega
    · have h8 := pow7_le8 (i := i) (by omega)
      have : m ≤ 127 := by omega
      have h2 : 2 ^ (7 * i) * m ≤ 72057594037927936 * 127 := Nat.mul_le_mul h8 this
      omega
  have e1 : ((m : Int) * 2 ^ (7 * i)) = ((2 ^ (7 * i) * m : Nat) : Int) := by rw [Int.natCast_mul, Int.mul_comm, Int.natCast_pow]; rfl
  rw [e1, show (((2 ^ (7 * i) * m : Nat) : Int) % 18446744073709551616) = ((2 ^ (7 * i) * m : Nat) : Int) by omega, bits_comm_or]
  rw [u64_join (7 * i) (by omega) (by exact_mod_cast Nat.mul_mod_right _ _) (by omega) (by omega) (by exact_mod_cast hn) (by omega)]
  push_cast
  omega

theorem behind_at (l : List Int) (i : Nat) (h : i ≤ l.length) (hl : l.length ≤ 140737488351232) : code_behind.f l (i : Int) = some (l.drop i) := by
  unfold code_behind.f
  simp only [Option.bind_some]
  rw [if_pos (by omega), if_pos (by omega), if_pos (by simp; omega)]
  simp

theorem code_TakeNum_l0 (l : List Int) (hb : Byt l) (hl : l.length ≤ 140737488351232) (d : Nat) : ∀ (i k n : Nat), l.length - i = d → i ≤ l.length → i ≤ 10 → n < 2 ^ (7 * i) → 2 * d + 2 ≤ k →
    code_TakeNum.l0 k l (n : Int) l (l.length : Int) (i : Int) = some (decRes n i (dec i (l.drop i))) := by
  induction d with
  | zero =>
    intro i k n hd hi h10 hn hk
    obtain ⟨k, rfl⟩ : ∃ m, k = m + 1 := ⟨k - 1, by omega⟩
    simp only [code_TakeNum.l0]
    rw [if_neg (by omega), List.drop_eq_nil_of_le (by omega)]; rfl
  | succ d ih =>
    intro i k n hd hi h10 hn hk
    obtain ⟨k, rfl⟩ : ∃ m, k = m + 1 + 1 := ⟨k - 2, by omega⟩
    have hlt : i < l.length := by omega
    obtain ⟨c0, c1⟩ := hb.rd (i : Int)
    rw [rd_drop hlt]
    simp only [code_TakeNum.l0]
    rw [if_pos (by omega), if_pos (by omega), if_pos (by omega)]
    generalize hc : rd l (i : Int) = c at c0 c1 ⊢
    by_cases bad : 10 ≤ i ∨ (i = 9 ∧ c > 1)
    · rw [dec, if_pos bad]
      rcases bad with bad | ⟨e, bad⟩
      · rw [if_neg (by omega), decide_eq_true (by omega)]
        simp only [code_TakeNum.j1]; rfl
      · rw [if_pos (by omega), if_pos bad]
        simp only [code_TakeNum.j1]; rfl
    · have h9 : i ≤ 9 := by omega
      have hc1 : i = 9 → c ≤ 1 := by omega
      have e : (if (i : Int) = 9 then (if c > 1 then (code_TakeNum.j1 (k + 1) l (n : Int) (i : Int) c l (l.length : Int) (i : Int) true) else (code_TakeNum.j1 (k + 1) l (n : Int) (i : Int) c l (l.length : Int) (i : Int) (decide ((i : Int) > 9)))) else (code_TakeNum.j1 (k + 1) l (n : Int) (i : Int) c l (l.length : Int) (i : Int) (decide ((i : Int) > 9)))) = code_TakeNum.j1 (k + 1) l (n : Int) (i : Int) c l (l.length : Int) (i : Int) false := by
        rw [decide_eq_false (by omega : ¬ (i : Int) > 9)]
        split
        · rw [if_neg (by omega)]
        · rfl
      rw [e, dec, if_neg bad]
      clear e
      simp only [code_TakeNum.j1]
      rw [if_neg (by decide), if_pos (by rw [wu64]; omega), take_step hn h9 c0 c1 hc1, wrap64_id (x := (i : Int) + 1) (by omega) (by omega)]
      by_cases h128 : c < 128
      · rw [if_pos h128, if_pos h128]
        rw [show ((i : Int) + 1) = ((i + 1 : Nat) : Int) by omega, behind_at l (i + 1) (by omega) hl]
        simp only [Option.bind_some]
        have hv : (c % 128).toNat = c.toNat := by rw [show c % 128 = c by omega]
        rw [hv]
        by_cases hz : c = 0
        · rw [if_pos hz]
          by_cases hi0 : 0 < i
          · rw [if_pos (by omega), if_pos ⟨hz, hi0⟩]; rfl
          · rw [if_neg (by omega), if_neg (by omega)]; rfl
        · rw [if_neg hz, if_neg (by omega)]; rfl
      · rw [if_neg h128, if_neg h128]
        rw [show ((i : Int) + 1) = ((i + 1 : Nat) : Int) by omega]
        have hm : (c % 128).toNat < 128 := by omega
        have hlt2 : n + 2 ^ (7 * i) * (c % 128).toNat < 2 ^ (7 * (i + 1)) := by
          rw [pow7_succ]
          have := Nat.mul_le_mul_left (2 ^ (7 * i)) (show (c % 128).toNat + 1 ≤ 128 by omega)
          rw [Nat.mul_add] at this
          omega
        rw [ih (i + 1) k _ (by omega) (by omega) (by omega) hlt2 (by omega)]
        congr 1
        cases dec (i + 1) (l.drop (i + 1)) with
        | none => rfl
        | some p =>
          obtain ⟨v, r⟩ := p
          simp only [decRes, Option.map_some]
          congr 2
          rw [pow7_succ, Nat.mul_add, Nat.add_assoc, Nat.mul_assoc]
theorem code_TakeNum_ev (l : List Int) (hb : Byt l) (hl : l.length ≤ 140737488351232) : Ev (fun k => code_TakeNum.f k l) (decRes 0 0 (dec 0 l)) := by
  refine ⟨2 * l.length + 2, fun k hk => ?_⟩
  unfold code_TakeNum.f
  have := code_TakeNum_l0 l hb hl l.length 0 k 0 (by omega) (by omega) (by omega) (by omega) (by omega)
  simpa using this

theorem dec_suf (l : List Int) : ∀ (i v : Nat) (r : List Int), dec i l = some (v, r) → r.length ≤ l.length ∧ (∀ x ∈ r, x ∈ l) := by
  induction l with
  | nil => intro i v r h; simp [dec] at h
  | cons c t ih =>
    intro i v r h
    rw [dec] at h
    split at h
    · cases h
    · split at h
      · split at h
        · cases h
        · simp only [Option.some.injEq, Prod.mk.injEq] at h
          obtain ⟨_, rfl⟩ := h
          exact ⟨by simp, fun x hx => List.mem_cons_of_mem _ hx⟩
      · rw [Option.map_eq_some_iff] at h
        obtain ⟨⟨v2, r2⟩, h1, h2⟩ := h
        simp only [Prod.mk.injEq] at h2
        obtain ⟨_, rfl⟩ := h2
        obtain ⟨a, b⟩ := ih (i + 1) v2 r2 h1
        exact ⟨by simp; omega, fun x hx => List.mem_cons_of_mem _ (b x hx)⟩
def ttOf (most : Int) : Option (Nat × List Int) → ByteArray × List Int × Bool
  | none => (⟨#[]⟩, [], false)
  | some (n, r) => if most < 0 ∨ (n : Int) > most ∨ r.length < n then (⟨#[]⟩, [], false) else (strOfNums (r.take n), r.drop n, true)
theorem decRes00 (d : Option (Nat × List Int)) : decRes 0 0 d = match d with | none => (0, [], false) | some (v, r) => ((v : Int), r, true) := by
  cases d with
  | none => rfl
  | some p => obtain ⟨v, r⟩ := p; simp [decRes]
theorem bytesOf_byt (s : ByteArray) : Byt (bytesOf s) := by
  intro x hx
  unfold PrintWords.bytesOf at hx
  obtain ⟨b, _, rfl⟩ := List.mem_map.mp hx
  have := b.toNat_lt
  omega

theorem byt_back {xs : List Int} (h : Byt xs) : (xs.map fun n => ((UInt8.ofNat n.toNat).toNat : Int)) = xs := by
  induction xs with
  | nil => rfl
  | cons c t ih =>
    have hc := h c (List.mem_cons_self ..)
    rw [List.map_cons, ih (fun x hx => h x (List.mem_cons_of_mem _ hx)), UInt8.toNat_ofNat']
    congr 1
    omega
theorem bytesOf_nums {xs : List Int} (h : Byt xs) : bytesOf (strOfNums xs) = xs := by
  rw [bl_bytesOf, bl_nums, List.map_map]
  exact byt_back h
theorem nums_bytesOf (s : ByteArray) : strOfNums (bytesOf s) = s := by
  apply ba_ext
  rw [bl_nums, bl_bytesOf, List.map_map]
  conv => rhs; rw [← List.map_id s.toList]
  apply List.map_congr_left
  intro b _
  simp
theorem nums_size (xs : List Int) : (strOfNums xs).size = xs.length := by rw [← bl_len, bl_nums, List.length_map]
theorem strs_byt (s : ByteArray) : Byt (bytesOf s) := by
  intro x hx
  rw [bl_bytesOf] at hx
  obtain ⟨b, _, rfl⟩ := List.mem_map.mp hx
  have := b.toNat_lt
  omega

theorem pow64 {i : Nat} (h : i ≤ 8) : 2 ^ (64 - 7 * i) = 128 * 2 ^ (64 - 7 * (i + 1)) := by
  rw [show 64 - 7 * i = 7 + (64 - 7 * (i + 1)) by omega, Nat.pow_add]
theorem pow64_ge {i : Nat} (h : i ≤ 8) : 256 ≤ 2 ^ (64 - 7 * i) := Nat.le_trans (show 256 ≤ 2 ^ 8 by decide) (Nat.pow_le_pow_right (by decide) (by omega))
theorem dec_enc (l : List Int) (hb : Byt l) : ∀ (i v : Nat) (r : List Int), dec i l = some (v, r) → numEnc v ++ r = l ∧ v < 2 ^ (64 - 7 * i) ∧ (0 < i → 0 < v) := by
  induction l with
  | nil => intro i v r h; simp [dec] at h
  | cons c t ih =>
    intro i v r h
    have hc := hb c (List.mem_cons_self ..)
    rw [dec] at h
    by_cases bad : 10 ≤ i ∨ (i = 9 ∧ c > 1)
    · rw [if_pos bad] at h; cases h
    · rw [if_neg bad] at h
      by_cases h1 : c < 128
      · rw [if_pos h1] at h
        by_cases h2 : c = 0 ∧ 0 < i
        · rw [if_pos h2] at h; cases h
        · rw [if_neg h2] at h
          simp only [Option.some.injEq, Prod.mk.injEq] at h
          obtain ⟨rfl, rfl⟩ := h
          refine ⟨?_, ?_, by omega⟩
          · rw [numEnc_lt (by omega), Int.toNat_of_nonneg hc.1]; rfl
          · by_cases h9 : i = 9
            · subst h9; have : (2 : Nat) ^ (64 - 7 * 9) = 2 := by decide
              omega
            · have := pow64_ge (i := i) (by omega)
              omega
      · rw [if_neg h1, Option.map_eq_some_iff] at h
        obtain ⟨⟨v2, r2⟩, h3, h2⟩ := h
        simp only [Prod.mk.injEq] at h2
        obtain ⟨rfl, rfl⟩ := h2
        obtain ⟨a, b, d⟩ := ih (fun x hx => hb x (List.mem_cons_of_mem _ hx)) (i + 1) v2 r2 h3
        have d := d (by omega)
        have hi : i ≤ 8 := by
          by_cases h9 : i = 9
          · omega
          · omega
        refine ⟨?_, ?_, by omega⟩
        · rw [numEnc_ge (by omega), show ((c % 128).toNat + 128 * v2) / 128 = v2 by omega, List.cons_append, a]
          congr 1
          omega
        · rw [pow64 hi]; omega
theorem enc_dec (n : Nat) : ∀ (i : Nat) (r : List Int), n < 2 ^ (64 - 7 * i) → i ≤ 9 → (0 < i → 0 < n) → dec i (numEnc n ++ r) = some (n, r) := by
  induction n using Nat.strongRecOn with
  | _ n ih =>
    intro i r hn hi hp
    by_cases h : n < 128
    · rw [numEnc_lt h, List.cons_append, dec, if_neg, if_pos (by omega), if_neg (by omega)]
      · simp
      · intro bad
        rcases bad with bad | ⟨rfl, bad⟩
        · omega
        · have : (2 : Nat) ^ (64 - 7 * 9) = 2 := by decide
          omega
    · have h9 : i ≠ 9 := by
        intro e; subst e
        have : (2 : Nat) ^ (64 - 7 * 9) = 2 := by decide
        omega
      rw [pow64 (by omega)] at hn
      rw [numEnc_ge h, List.cons_append, dec, if_neg (by omega), if_neg (by omega), ih (n / 128) (by omega) (i + 1) r (by omega) (by omega) (by omega), Option.map_some]
      congr 2
      omega

theorem within_val (a b c : Int) : rights_within.f a b c = some (decide (b ≤ a ∧ a ≤ c)) := by
  unfold rights_within.f
  by_cases h : a ≥ b
  · rw [if_pos h]
    exact congrArg some (decide_eq_decide.mpr (by omega))
  · rw [if_neg h, decide_eq_false (by omega)]
theorem wi (x : Int) (h0 : -9223372036854775808 ≤ x) (h1 : x ≤ 9223372036854775807) : wrap64 x = x := by unfold wrap64; omega
def snd (F H Q : Int) : Prop := (0 ≤ F ∧ F ≤ 1125899906842624) ∧ (0 ≤ H ∧ H ≤ 1125899906842624) ∧ (0 ≤ Q ∧ Q ≤ 1125899906842624) ∧ F + H ≤ 1125899906842624
def hld (N U : Int) : Prop := (1 ≤ N ∧ N ≤ 1125899906842624) ∧ (0 ≤ U ∧ U ≤ 1099511627776)
instance (F H Q : Int) : Decidable (snd F H Q) := by unfold snd; infer_instance
instance (N U : Int) : Decidable (hld N U) := by unfold hld; infer_instance
theorem sound_val (F H Q : Int) : rights_sound.f F H Q = some (decide (snd F H Q)) := by
  unfold rights_sound.f
  rw [within_val, within_val, within_val]
  by_cases h1 : 0 ≤ F ∧ F ≤ 1125899906842624
  · rw [decide_eq_true h1, Option.bind_some, if_pos rfl]
    by_cases h2 : 0 ≤ H ∧ H ≤ 1125899906842624
    · rw [decide_eq_true h2, Option.bind_some, if_pos rfl]
      by_cases h3 : 0 ≤ Q ∧ Q ≤ 1125899906842624
      · rw [decide_eq_true h3, Option.bind_some, if_pos rfl, wi _ (by omega) (by omega)]
        exact congrArg some (decide_eq_decide.mpr (by unfold snd; omega))
      · rw [decide_eq_false h3, Option.bind_some, if_neg (by decide), decide_eq_false (by unfold snd; omega)]
    · rw [decide_eq_false h2, Option.bind_some, if_neg (by decide), decide_eq_false (by unfold snd; omega)]
  · rw [decide_eq_false h1, Option.bind_some, if_neg (by decide), decide_eq_false (by unfold snd; omega)]

theorem holds_val (N U : Int) : rights_holds.f N U = some (decide (hld N U)) := by
  unfold rights_holds.f
  rw [within_val, within_val]
  by_cases h1 : 1 ≤ N ∧ N ≤ 1125899906842624
  · rw [decide_eq_true h1, Option.bind_some, if_pos rfl, Option.bind_some]
    exact congrArg some (decide_eq_decide.mpr (by unfold hld; omega))
  · rw [decide_eq_false h1, Option.bind_some, if_neg (by decide), decide_eq_false (by unfold hld; omega)]
def rsv (F H Q N U : Int) : Int × Int × Int × Int := if snd F H Q ∧ hld N U then (if F < N then (0, 0, 0, 201) else if H + N > Q then (0, 0, 0, 205) else (F - N, H + N, Q, 0)) else (0, 0, 0, 206)
def cnl (F H Q N U : Int) : Int × Int × Int × Int := if snd F H Q ∧ hld N U then (if H < N then (0, 0, 0, 201) else (F + N, H - N, Q, 0)) else (0, 0, 0, 206)
def cnf (F H Q N U t : Int) : Int × Int × Int × Int := if snd F H Q ∧ hld N U then (if 0 ≤ t ∧ t ≤ 1099511627776 then (if U < t then (0, 0, 0, 204) else if H < N then (0, 0, 0, 201) else (F, H - N, Q, 0)) else (0, 0, 0, 1)) else (0, 0, 0, 206)
def xpr (F H Q N U t : Int) : Int × Int × Int × Int := if snd F H Q ∧ hld N U then (if 0 ≤ t ∧ t ≤ 1099511627776 then (if U ≥ t then (F, H, Q, 0) else cnl F H Q N U) else (0, 0, 0, 1)) else (0, 0, 0, 206)
def mor (F H Q n : Int) : Int × Int × Int × Int := if snd F H Q then (if 1 ≤ n ∧ n ≤ 1125899906842624 then (if F + H + n > 1125899906842624 then (0, 0, 0, 200) else (F + n, H, Q, 0)) else (0, 0, 0, 1)) else (0, 0, 0, 206)
def les (F H Q n : Int) : Int × Int × Int × Int := if snd F H Q then (if 1 ≤ n ∧ n ≤ 1125899906842624 then (if F < n then (0, 0, 0, 201) else (F - n, H, Q, 0)) else (0, 0, 0, 1)) else (0, 0, 0, 206)
def quo (F H Q n : Int) : Int × Int × Int × Int := if snd F H Q then (if 0 ≤ n ∧ n ≤ 1125899906842624 then (F, H, n, 0) else (0, 0, 0, 1)) else (0, 0, 0, 206)

theorem more_val (F H Q n : Int) : rights_more.f F H Q n = some (mor F H Q n) := by
  unfold rights_more.f mor
  rw [sound_val, within_val, Option.bind_some]
  by_cases hs : snd F H Q
  · rw [decide_eq_true hs, if_pos rfl, if_pos hs, Option.bind_some]
    by_cases hn : 1 ≤ n ∧ n ≤ 1125899906842624
    · rw [decide_eq_true hn, if_pos rfl, if_pos hn]
      unfold snd at hs
      rw [wi (1125899906842624 - F) (by omega) (by omega), wi (1125899906842624 - F - H) (by omega) (by omega), wi (F + n) (by omega) (by omega)]
      by_cases c : n > 1125899906842624 - F - H
      · rw [if_pos c, if_pos (by omega)]
      · rw [if_neg c, if_neg (by omega)]
    · rw [decide_eq_false hn, if_neg (by decide), if_neg hn]
  · rw [decide_eq_false hs, if_neg (by decide), if_neg hs]

theorem grant_val (F H Q n : Int) : rights_Grant.f F H Q n = some (mor F H Q n) := by unfold rights_Grant.f; rw [more_val]; rfl
theorem awake20 : Ev (fun k => lienlaw20_awake.f k) true := Ev.of (fun k => lienlaw20_awake.mono k) (k := 20) (by kernel_rfl)

def rowE (l : List Int) : List Int := l.flatMap fun x => numEnc x.toNat
theorem row_l0 (l : List Int) (hl : ∀ x ∈ l, 0 ≤ x ∧ x ≤ 1125899906842624) (h9 : l.length ≤ 9) (d : Nat) : ∀ (i : Nat) (acc : List Int), l.length - i = d → i ≤ l.length → acc.length + 10 * d < 140737488355328 → Ev (fun k => rights_row.l0 k acc l (l.length : Int) (i : Int)) (acc ++ rowE (l.drop i)) := by
  induction d with
  | zero =>
    intro i acc hd hi ha
    refine Ev.step (f := fun _ => some acc) (fun k => ?_) ?_
    · rw [rights_row.l0, if_neg (by omega)]
    · rw [List.drop_eq_nil_of_le (by omega), rowE, List.flatMap_nil, List.append_nil]; exact Ev.now _
  | succ d ih =>
    intro i acc hd hi ha
    have hlt : i < l.length := by omega
    have hm := hl _ (List.getElem_mem hlt)
    have er : rd l (i : Int) = l[i] := by rw [rd_nat, List.getD_eq_getElem?_getD, List.getElem?_eq_getElem hlt]; rfl
    have e9 := len10 (n := (l[i]).toNat) (by omega)
    refine Ev.step (f := fun k => (code_Num.f k l[i]).bind fun t => (if acc.length + t.length < 140737488355328 then (rights_row.l0 k (acc ++ t) l (l.length : Int) ((i + 1 : Nat) : Int)) else none)) (fun k => ?_) ?_
    · rw [rights_row.l0, if_pos (by omega), if_pos (by omega), if_pos (by omega), er, wi _ (by omega) (by omega), wu64, show l[i] % 18446744073709551616 = l[i] by omega]; rfl
    · refine Ev.bind (code_Num_ev _ hm.1 (by omega)) ?_
      have hx : acc.length + (numEnc (l[i]).toNat).length < 140737488355328 := by omega
      simp only [if_pos hx]
      have := ih (i + 1) (acc ++ numEnc (l[i]).toNat) (by omega) (by omega) (by rw [List.length_append]; omega)
      rw [List.drop_eq_getElem_cons hlt, rowE, List.flatMap_cons, ← List.append_assoc]
      exact this
theorem row_ev (l : List Int) (hl : ∀ x ∈ l, 0 ≤ x ∧ x ≤ 1125899906842624) (h9 : l.length ≤ 9) : Ev (fun k => rights_row.f k l) (rowE l) := by
  have := row_l0 l hl h9 l.length 0 [] (by omega) (by omega) (by simp only [List.length_nil]; omega)
  exact this
def decN : Nat → List Int → List Int × Bool
  | 0, l => ([], ((l.length : Int) == 0))
  | m + 1, l => match dec 0 l with
    | none => ([], false)
    | some (v, r) => if (v : Int) > 1125899906842624 then ([], false) else (wrap64 (v : Int) :: (decN m r).1, (decN m r).2)
theorem numsF_ev : ∀ (m : Nat) (l : List Int), Byt l → l.length ≤ 140737488351232 → Ev (fun k => numsF k m l) (decN m l) := by
  intro m
  induction m with
  | zero => intro l _ _; exact Ev.now _
  | succ m ih =>
    intro l hb hl
    show Ev (fun k => (code_TakeNum.f k l).bind fun t => if t.2.2 = true then (if t.1 > 1125899906842624 then some ([], false) else (numsF k m t.2.1).bind fun r => some (wrap64 t.1 :: r.1, r.2)) else some ([], false)) _
    refine Ev.bind (code_TakeNum_ev l hb hl) ?_
    rw [decRes00, decN]
    cases hd : dec 0 l with
    | none => exact Ev.now _
    | some p =>
      obtain ⟨v, r⟩ := p
      obtain ⟨h1, h2⟩ := dec_suf l 0 v r hd
      simp only [if_true]
      by_cases c : (v : Int) > 1125899906842624
      · simp only [if_pos c]; exact Ev.now _
      · simp only [if_neg c]
        exact Ev.bind (ih r (fun x hx => hb x (h2 x hx)) (by omega)) (Ev.now _)
theorem decN_row : ∀ (l : List Int), (∀ x ∈ l, 0 ≤ x ∧ x ≤ 1125899906842624) → decN l.length (rowE l) = (l, true) := by
  intro l
  induction l with
  | nil => intro _; rfl
  | cons a t ih =>
    intro h
    have ha := h a (List.mem_cons_self ..)
    have e : rowE (a :: t) = numEnc a.toNat ++ rowE t := by rw [rowE, List.flatMap_cons]; rfl
    rw [List.length_cons, decN, e, enc_dec a.toNat 0 (rowE t) (by show a.toNat < 18446744073709551616; omega) (by omega) (by omega)]
    simp only
    rw [if_neg (by omega), ih (fun x hx => h x (List.mem_cons_of_mem _ hx)), Int.toNat_of_nonneg ha.1, wi _ (by omega) (by omega)]
theorem row_decN : ∀ (m : Nat) (l : List Int), Byt l → (decN m l).2 = true → rowE (decN m l).1 = l ∧ (decN m l).1.length = m ∧ ∀ x ∈ (decN m l).1, 0 ≤ x ∧ x ≤ 1125899906842624 := by
  intro m
  induction m with
  | zero =>
    intro l _ h
    have h1 : ((l.length : Int) == 0) = true := h
    have h2 : l.length = 0 := by have := beq_iff_eq.mp h1; omega
    rw [List.length_eq_zero_iff.mp h2]
    exact ⟨rfl, rfl, fun x hx => absurd hx List.not_mem_nil⟩
  | succ m ih =>
    intro l hb h
    rw [decN] at h ⊢
    cases hd : dec 0 l with
    | none => rw [hd] at h; exact absurd h (by simp)
    | some p =>
      obtain ⟨v, r⟩ := p
      rw [hd] at h
      simp only at h ⊢
      by_cases c : (v : Int) > 1125899906842624
      · rw [if_pos c] at h; exact absurd h (by simp)
      · rw [if_neg c] at h ⊢
        obtain ⟨_, h2⟩ := dec_suf l 0 v r hd
        obtain ⟨e, _, _⟩ := dec_enc l hb 0 v r hd
        obtain ⟨i1, i2, i3⟩ := ih r (fun x hx => hb x (h2 x hx)) h
        have ew : wrap64 (v : Int) = (v : Int) := wi _ (by omega) (by omega)
        refine ⟨?_, by rw [List.length_cons, i2], ?_⟩
        · show rowE (wrap64 (v : Int) :: (decN m r).1) = l
          rw [ew, rowE, List.flatMap_cons, Int.toNat_natCast]
          show numEnc v ++ rowE (decN m r).1 = l
          rw [i1, e]
        · intro x hx
          rcases List.mem_cons.mp hx with rfl | hx
          · rw [ew]; omega
          · exact i3 x hx
def raV (l : List Int) : Int × Int × Int × Int := if (decN 3 l).2 = true ∧ snd (rd (decN 3 l).1 0) (rd (decN 3 l).1 1) (rd (decN 3 l).1 2) then (rd (decN 3 l).1 0, rd (decN 3 l).1 1, rd (decN 3 l).1 2, 0) else (0, 0, 0, 206)
theorem racc_ev (l : List Int) (hb : Byt l) (hl : l.length ≤ 140737488351232) : Ev (fun k => rights_ReadAccount.f k l) (raV l) := by
  unfold rights_ReadAccount.f
  refine Ev.bind (numsF_ev 3 l hb hl) ?_
  unfold raV
  by_cases c : (decN 3 l).2 = true
  · simp only [if_pos c, sound_val, Option.bind_some]
    by_cases hs : snd (rd (decN 3 l).1 0) (rd (decN 3 l).1 1) (rd (decN 3 l).1 2)
    · simp only [decide_eq_true hs, if_true]
      rw [if_pos ⟨c, hs⟩]; exact Ev.now _
    · simp only [decide_eq_false hs, Bool.false_eq_true, if_false]
      rw [if_neg (fun h => hs h.2)]; exact Ev.now _
  · simp only [if_neg c]
    rw [if_neg (fun h => c h.1)]; exact Ev.now _
def rhV (l : List Int) : Int × Int × Int := if (decN 2 l).2 = true ∧ hld (rd (decN 2 l).1 0) (rd (decN 2 l).1 1) then (rd (decN 2 l).1 0, rd (decN 2 l).1 1, 0) else (0, 0, 206)
theorem rhold_ev (l : List Int) (hb : Byt l) (hl : l.length ≤ 140737488351232) : Ev (fun k => rights_ReadHold.f k l) (rhV l) := by
  unfold rights_ReadHold.f
  refine Ev.bind (numsF_ev 2 l hb hl) ?_
  unfold rhV
  by_cases c : (decN 2 l).2 = true
  · simp only [if_pos c, holds_val, Option.bind_some]
    by_cases hs : hld (rd (decN 2 l).1 0) (rd (decN 2 l).1 1)
    · simp only [decide_eq_true hs, if_true]
      rw [if_pos ⟨c, hs⟩]; exact Ev.now _
    · simp only [decide_eq_false hs, Bool.false_eq_true, if_false]
      rw [if_neg (fun h => hs h.2)]; exact Ev.now _
  · simp only [if_neg c]
    rw [if_neg (fun h => c h.1)]; exact Ev.now _
theorem mem3 {F H Q : Int} (hs : snd F H Q) : ∀ x ∈ [F, H, Q], 0 ≤ x ∧ x ≤ 1125899906842624 := by
  unfold snd at hs
  intro x hx
  simp only [List.mem_cons, List.not_mem_nil, or_false] at hx
  rcases hx with rfl | rfl | rfl <;> omega
theorem mem2 {N U : Int} (hs : hld N U) : ∀ x ∈ [N, U], 0 ≤ x ∧ x ≤ 1125899906842624 := by
  unfold hld at hs
  intro x hx
  simp only [List.mem_cons, List.not_mem_nil, or_false] at hx
  rcases hx with rfl | rfl <;> omega
theorem ab_ev (F H Q : Int) : Ev (fun k => rights_AccountBytes.f k F H Q) (if snd F H Q then (rowE [F, H, Q], 0) else ([], 206)) := by
  unfold rights_AccountBytes.f
  simp only [sound_val, Option.bind_some]
  by_cases hs : snd F H Q
  · simp only [decide_eq_true hs, if_true, if_pos hs]
    exact Ev.bind (row_ev _ (mem3 hs) (by simp)) (Ev.now _)
  · simp only [decide_eq_false hs, Bool.false_eq_true, if_false, if_neg hs]
    exact Ev.now _
theorem hb_ev (N U : Int) : Ev (fun k => rights_HoldBytes.f k N U) (if hld N U then (rowE [N, U], 0) else ([], 206)) := by
  unfold rights_HoldBytes.f
  simp only [holds_val, Option.bind_some]
  by_cases hs : hld N U
  · simp only [decide_eq_true hs, if_true, if_pos hs]
    exact Ev.bind (row_ev _ (mem2 hs) (by simp)) (Ev.now _)
  · simp only [decide_eq_false hs, Bool.false_eq_true, if_false, if_neg hs]
    exact Ev.now _
theorem rowE_byt (l : List Int) : Byt (rowE l) := by
  intro x hx
  unfold rowE at hx
  obtain ⟨a, _, hx⟩ := List.mem_flatMap.mp hx
  exact numEnc_byt _ x hx
theorem rowE_len (l : List Int) (hl : ∀ x ∈ l, 0 ≤ x ∧ x ≤ 1125899906842624) : (rowE l).length ≤ 10 * l.length := by
  induction l with
  | nil => simp [rowE]
  | cons a t ih =>
    have ha := hl a (List.mem_cons_self ..)
    have := ih (fun x hx => hl x (List.mem_cons_of_mem _ hx))
    have h9 := len10 (n := a.toNat) (by omega)
    have e : rowE (a :: t) = numEnc a.toNat ++ rowE t := by rw [rowE, List.flatMap_cons]; rfl
    rw [e, List.length_append, List.length_cons]; omega
theorem raV_row {F H Q : Int} (hs : snd F H Q) : raV (rowE [F, H, Q]) = (F, H, Q, 0) := by
  have e : decN 3 (rowE [F, H, Q]) = ([F, H, Q], true) := decN_row [F, H, Q] (mem3 hs)
  rw [raV, e]
  exact if_pos ⟨rfl, hs⟩
theorem rhV_row {N U : Int} (hs : hld N U) : rhV (rowE [N, U]) = (N, U, 0) := by
  have e : decN 2 (rowE [N, U]) = ([N, U], true) := decN_row [N, U] (mem2 hs)
  rw [rhV, e]
  exact if_pos ⟨rfl, hs⟩
theorem tail_ev (l : List Int) (hb : Byt l) (hl : l.length ≤ 140737488351232) : Ev (fun k => (rights_ReadAccount.f k l).bind fun bt228 => (if bt228.2.2.2 = 0 then ((rights_AccountBytes.f k bt228.1 bt228.2.1 bt228.2.2.1).bind fun bt233 => (if bt233.2 = 0 then (some ((strOfNums bt233.1).toList == (strOfNums l).toList)) else (some false))) else (if bt228.2.2.2 = 206 then (some (bt228.1 == 0 && (bt228.2.1 == 0 && (bt228.2.2.1 == 0)))) else (some false)))) true := by
  refine Ev.bind (racc_ev l hb hl) ?_
  unfold raV
  by_cases c : (decN 3 l).2 = true ∧ snd (rd (decN 3 l).1 0) (rd (decN 3 l).1 1) (rd (decN 3 l).1 2)
  · simp only [if_pos c, if_true]
    obtain ⟨c1, c2⟩ := c
    obtain ⟨h1, h2, h3⟩ := row_decN 3 l hb c1
    refine Ev.bind (ab_ev _ _ _) ?_
    simp only [if_pos c2, if_true]
    generalize (decN 3 l).1 = s at *
    match s, h2 with
    | [a, b, d], _ =>
      have e : rowE [rd [a, b, d] 0, rd [a, b, d] 1, rd [a, b, d] 2] = l := h1
      rw [e, beq_self_eq_true]
      exact Ev.now _
  · simp only [if_neg c]
    exact Ev.now true
theorem j1_ev (l : List Int) (hb : Byt l) (hl : l.length ≤ 140737488351232) : Ev (fun k => lienlaw20_RightsBack.j1 k l) true := Ev.step (fun k => by rw [lienlaw20_RightsBack.j1]) (tail_ev l hb hl)
theorem j0_ev (l : List Int) (hb : Byt l) (hl : l.length ≤ 140737488351232) (N U : Int) : Ev (fun k => lienlaw20_RightsBack.j0 k l N U) true := by
  refine Ev.step (f := fun k => (rights_HoldBytes.f k N U).bind fun bt220 => (if bt220.2 = 0 then ((rights_ReadHold.f k bt220.1).bind fun bt224 => (if bt224.2.2 = 0 then (if (!(bt224.1 == N) || (!(bt224.2.1 == U))) = true then (some false) else (lienlaw20_RightsBack.j1 k l)) else (some false))) else (lienlaw20_RightsBack.j1 k l))) (fun k => by rw [lienlaw20_RightsBack.j0]) ?_
  refine Ev.bind (hb_ev N U) ?_
  by_cases hs : hld N U
  · simp only [if_pos hs, if_true]
    have hlen := rowE_len [N, U] (mem2 hs)
    simp only [List.length_cons, List.length_nil] at hlen
    refine Ev.bind (rhold_ev _ (rowE_byt _) (by omega)) ?_
    rw [rhV_row hs]
    simp only [beq_self_eq_true, Bool.not_true, Bool.or_self, Bool.false_eq_true, if_false, if_true]
    exact j1_ev l hb hl
  · simp only [if_neg hs]
    simp (config := { decide := true }) only [if_false]
    exact j1_ev l hb hl
theorem main_j0 (l : List Int) (hb : Byt l) (hl : l.length ≤ 140737488351232) (F H Q N U : Int) : Ev (fun k => (lienlaw20_awake.f k).bind fun t210 => (if t210 = true then ((rights_AccountBytes.f k F H Q).bind fun bt211 => (if bt211.2 = 0 then ((rights_ReadAccount.f k bt211.1).bind fun bt215 => (if bt215.2.2.2 = 0 then (if (!(bt215.1 == F) || (!(bt215.2.1 == H) || (!(bt215.2.2.1 == Q)))) = true then (some false) else (lienlaw20_RightsBack.j0 k l N U)) else (some false))) else (lienlaw20_RightsBack.j0 k l N U))) else (some false))) true := by
  refine Ev.bind awake20 ?_
  simp only [if_true]
  refine Ev.bind (ab_ev F H Q) ?_
  by_cases hs : snd F H Q
  · simp only [if_pos hs, if_true]
    have hlen := rowE_len [F, H, Q] (mem3 hs)
    simp only [List.length_cons, List.length_nil] at hlen
    refine Ev.bind (racc_ev _ (rowE_byt _) (by omega)) ?_
    rw [raV_row hs]
    simp only [beq_self_eq_true, Bool.not_true, Bool.or_self, Bool.false_eq_true, if_false, if_true]
    exact j0_ev l hb hl N U
  · simp only [if_neg hs]
    simp (config := { decide := true }) only [if_false]
    exact j0_ev l hb hl N U
theorem j3_ev (l : List Int) (hb : Byt l) (hl : l.length ≤ 140737488351232) : Ev (fun k => lienlaw20_RightsBack.j3 k l) true := Ev.step (fun k => by rw [lienlaw20_RightsBack.j3]) (tail_ev l hb hl)
theorem j2_ev (l : List Int) (hb : Byt l) (hl : l.length ≤ 140737488351232) (N U : Int) : Ev (fun k => lienlaw20_RightsBack.j2 k l N U) true := by
  refine Ev.step (f := fun k => (rights_HoldBytes.f k N U).bind fun bt220 => (if bt220.2 = 0 then ((rights_ReadHold.f k bt220.1).bind fun bt224 => (if bt224.2.2 = 0 then (if (!(bt224.1 == N) || (!(bt224.2.1 == U))) = true then (some false) else (lienlaw20_RightsBack.j3 k l)) else (some false))) else (lienlaw20_RightsBack.j3 k l))) (fun k => by rw [lienlaw20_RightsBack.j2]) ?_
  refine Ev.bind (hb_ev N U) ?_
  by_cases hs : hld N U
  · simp only [if_pos hs, if_true]
    have hlen := rowE_len [N, U] (mem2 hs)
    simp only [List.length_cons, List.length_nil] at hlen
    refine Ev.bind (rhold_ev _ (rowE_byt _) (by omega)) ?_
    rw [rhV_row hs]
    simp only [beq_self_eq_true, Bool.not_true, Bool.or_self, Bool.false_eq_true, if_false, if_true]
    exact j3_ev l hb hl
  · simp only [if_neg hs]
    simp (config := { decide := true }) only [if_false]
    exact j3_ev l hb hl
theorem main_j2 (l : List Int) (hb : Byt l) (hl : l.length ≤ 140737488351232) (F H Q N U : Int) : Ev (fun k => (lienlaw20_awake.f k).bind fun t210 => (if t210 = true then ((rights_AccountBytes.f k F H Q).bind fun bt211 => (if bt211.2 = 0 then ((rights_ReadAccount.f k bt211.1).bind fun bt215 => (if bt215.2.2.2 = 0 then (if (!(bt215.1 == F) || (!(bt215.2.1 == H) || (!(bt215.2.2.1 == Q)))) = true then (some false) else (lienlaw20_RightsBack.j2 k l N U)) else (some false))) else (lienlaw20_RightsBack.j2 k l N U))) else (some false))) true := by
  refine Ev.bind awake20 ?_
  simp only [if_true]
  refine Ev.bind (ab_ev F H Q) ?_
  by_cases hs : snd F H Q
  · simp only [if_pos hs, if_true]
    have hlen := rowE_len [F, H, Q] (mem3 hs)
    simp only [List.length_cons, List.length_nil] at hlen
    refine Ev.bind (racc_ev _ (rowE_byt _) (by omega)) ?_
    rw [raV_row hs]
    simp only [beq_self_eq_true, Bool.not_true, Bool.or_self, Bool.false_eq_true, if_false, if_true]
    exact j2_ev l hb hl N U
  · simp only [if_neg hs]
    simp (config := { decide := true }) only [if_false]
    exact j2_ev l hb hl N U
theorem RightsBack : lienlaw20_RightsBack.Pure := by
  intro F H Q N U l _ _ _ _ _ hl
  obtain ⟨hl, _, hb⟩ := hl
  have hbt : Byt l := fun x hx => wf_u8 (hb x hx)
  have hl2 : l.length ≤ 140737488351232 := by omega
  refine Ev.rounds ?_
  unfold lienlaw20_RightsBack.f
  by_cases c : (l.length : Int) > 100
  · have c2 : 100 ≤ (l.length : Int) := by omega
    simp only [if_pos c, if_pos c2]
    exact main_j0 (l.take 100) (fun x hx => hbt x (List.mem_of_mem_take hx)) (by rw [List.length_take]; omega) F H Q N U
  · simp only [if_neg c]
    exact main_j2 l hbt hl2 F H Q N U

end Go.Proofs.Ytaodgncldakhgaa.Pure
