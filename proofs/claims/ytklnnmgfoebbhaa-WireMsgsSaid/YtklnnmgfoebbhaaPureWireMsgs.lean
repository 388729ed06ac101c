/- Written for the statement WireMsgs over the program's printed functions: numbers and lists alone. -/
import Derived.Test.YtklnnmgfoebbhaaPWireMsgsx
set_option linter.unusedVariables false
set_option linter.unusedSimpArgs false
namespace Go.Proofs.Ytklnnmgfoebbhaa.Pure
open Go.RowKit Go.Proofs.Ytklnnmgfoebbhaa.PWireMsgs Go.Proofs.YtklnnmgfoebbhaaW Go.Proofs.YtklnnmgfoebbhaaW.PrintWords Go.Proofs.YtklnnmgfoebbhaaW.PrintLast Go.Proofs.YtklnnmgfoebbhaaW.PrintMore

theorem wrap64_id {x : Int} (h0 : -9223372036854775808 ≤ x) (h1 : x ≤ 9223372036854775807) : wrap64 x = x := by unfold wrap64; omega
theorem wu64 (n : Int) : IntKind.u64.wrap n = n % 18446744073709551616 := by simp [IntKind.wrap, IntKind.bits, IntKind.signed]
theorem wraps_u64 (n : Int) (h0 : 0 ≤ n) (h1 : n < 2 ^ 64) : IntKind.u64.wrap n = n := by rw [wu64]; omega
theorem u64_and127 {x : Int} (h0 : 0 ≤ x) (h1 : x < 18446744073709551616) : Go.bits .and .u64 x 127 = x % 128 := Go.bits_mask .u64 64 (by decide) wraps_u64 7 (by decide) x h0 h1
theorem u8_and127 {x : Int} (h0 : 0 ≤ x) (h1 : x < 256) : Go.bits .and .u8 x 127 = x % 128 := Go.bits_mask .u8 8 (by decide) Go.wraps_u8 7 (by decide) x h0 h1
theorem bits_comm_or (k : IntKind) (x y : Int) : Go.bits .or k x y = Go.bits .or k y x := by simp [Go.bits, BitVec.or_comm]
theorem u8_or_128 {x : Int} (h0 : 0 ≤ x) (h1 : x < 128) : Go.bits .or .u8 x 128 = x + 128 := by
  rw [bits_comm_or, Go.bits_join .u8 8 (by decide) Go.wraps_u8 7 128 x (by decide) (by decide) (by decide) h0 h1 (by omega)]; omega
theorem u64_join (i : Nat) {x y : Int} (hx0 : 0 ≤ x) (hx : x % 2 ^ i = 0) (hx1 : x < 18446744073709551616) (hy0 : 0 ≤ y) (hy : y < 2 ^ i) (hy1 : y < 18446744073709551616) : Go.bits .or .u64 x y = x + y :=
  Go.bits_join .u64 64 (by decide) wraps_u64 i x y hx0 hx hx1 hy0 hy hy1
theorem wf_u64 {x : Int} (h : (Lit.int .u64 x).wf = true) : 0 ≤ x ∧ x < 18446744073709551616 := by
  simp [Lit.wf, IntKind.min, IntKind.max, IntKind.bits, IntKind.signed] at h; omega
theorem wf_u8 {x : Int} (h : (Lit.int .u8 x).wf = true) : 0 ≤ x ∧ x < 256 := by
  simp [Lit.wf, IntKind.min, IntKind.max, IntKind.bits, IntKind.signed] at h; omega
theorem wf_i64 {x : Int} (h : (Lit.int .i64 x).wf = true) : -9223372036854775808 ≤ x ∧ x ≤ 9223372036854775807 := by
  simp [Lit.wf, IntKind.min, IntKind.max, IntKind.bits, IntKind.signed] at h; omega
def Byt (l : List Int) : Prop := ∀ x ∈ l, 0 ≤ x ∧ x < 256
theorem Byt.of_wf {l : List Int} (h : ∀ x ∈ l, (Lit.int .u8 x).wf = true) : Byt l := fun x hx => wf_u8 (h x hx)
theorem Byt.rd {l : List Int} (h : Byt l) (i : Int) : 0 ≤ rd l i ∧ rd l i < 256 := by
  unfold PrintWords.rd
  rw [List.getD_eq_getElem?_getD]
  cases e : l[i.toNat]? with
  | none => simp
  | some x => exact h x (List.mem_of_getElem? e)
theorem Byt.take {l : List Int} (h : Byt l) (n : Nat) : Byt (l.take n) := fun x hx => h x (List.mem_of_mem_take hx)
theorem Byt.drop {l : List Int} (h : Byt l) (n : Nat) : Byt (l.drop n) := fun x hx => h x (List.mem_of_mem_drop hx)
theorem rd_nat (l : List Int) (i : Nat) : rd l (i : Int) = l.getD i 0 := by unfold PrintWords.rd; simp
theorem rd_drop {l : List Int} {i : Nat} (h : i < l.length) : l.drop i = rd l (i : Int) :: l.drop (i + 1) := by
  rw [rd_nat, List.drop_eq_getElem_cons h]; simp [List.getD_eq_getElem?_getD, List.getElem?_eq_getElem h]

def numEnc (n : Nat) : List Int := if n < 128 then [(n : Int)] else ((n % 128 + 128 : Nat) : Int) :: numEnc (n / 128)
theorem numEnc_lt {n : Nat} (h : n < 128) : numEnc n = [(n : Int)] := by rw [numEnc, if_pos h]
theorem numEnc_ge {n : Nat} (h : ¬ n < 128) : numEnc n = ((n % 128 + 128 : Nat) : Int) :: numEnc (n / 128) := by rw [numEnc, if_neg h]
theorem numEnc_byt (n : Nat) : Byt (numEnc n) := by
  induction n using Nat.strongRecOn with
  | _ n ih =>
    by_cases h : n < 128
    · rw [numEnc_lt h]; intro x hx; simp at hx; omega
    · rw [numEnc_ge h]; intro x hx
      rcases List.mem_cons.mp hx with rfl | hx
      · omega
      · exact ih (n / 128) (by omega) x hx
theorem numEnc_len (n : Nat) : ∀ d, n < 128 ^ (d + 1) → (numEnc n).length ≤ d + 1 := by
  induction n using Nat.strongRecOn with
  | _ n ih =>
    intro d hd
    by_cases h : n < 128
    · rw [numEnc_lt h]; simp
    · rw [numEnc_ge h]
      cases d with
      | zero => omega
      | succ d =>
        have := ih (n / 128) (by omega) d (by rw [Nat.pow_succ] at hd; exact Nat.div_lt_of_lt_mul (by omega))
        simp; omega
theorem numEnc_pos (n : Nat) : 0 < (numEnc n).length := by
  by_cases h : n < 128
  · rw [numEnc_lt h]; simp
  · rw [numEnc_ge h]; simp

theorem bl_eq (s : ByteArray) : s.toList = s.data.toList := ByteArray.toList_eq s
theorem ba_ext {a b : ByteArray} (h : a.toList = b.toList) : a = b := by
  rw [bl_eq, bl_eq] at h
  exact ByteArray.ext (Array.toList_inj.mp h)
theorem bl_len (s : ByteArray) : s.toList.length = s.size := by rw [bl_eq, Array.length_toList]; rfl
theorem bl_append (a b : ByteArray) : (a ++ b).toList = a.toList ++ b.toList := by rw [bl_eq, bl_eq, bl_eq, ByteArray.data_append, Array.toList_append]
theorem bl_extract (a : ByteArray) (i j : Nat) : (a.extract i j).toList = (a.toList.take j).drop i := by
  rw [bl_eq, bl_eq, ByteArray.data_extract, Array.toList_extract, List.extract_eq_take_drop, List.drop_take]
theorem bl_nums (xs : List Int) : (strOfNums xs).toList = xs.map fun n => UInt8.ofNat n.toNat := by rw [bl_eq]; rfl
theorem bt_nat (s : ByteArray) (i : Nat) (h : i < s.size) : bt s (i : Int) = ((s.toList[i]'(by rw [bl_len]; exact h)).toNat : Int) := by
  unfold PrintWords.bt
  rw [dif_pos (by simpa using h)]
  simp only [Int.toNat_natCast, bl_eq]
  rfl
theorem bl_bytesOf (s : ByteArray) : bytesOf s = s.toList.map fun b => (b.toNat : Int) := by unfold PrintWords.bytesOf; rw [bl_eq]
theorem less_app (p x y : List UInt8) : Op.bytesLess (p ++ x) (p ++ y) = Op.bytesLess x y := by
  induction p with
  | nil => rfl
  | cons c t ih => simp [Op.bytesLess, ih, UInt8.lt_irrefl]
theorem less_next {c d : UInt8} (h : c.toNat < d.toNat) (x y : List UInt8) : Op.bytesLess (c :: x) (d :: y) = true := by
  simp only [Op.bytesLess]
  rw [decide_eq_true (UInt8.lt_iff_toNat_lt.mpr h)]
  rfl

theorem code_Num_l0 (n : Nat) : ∀ (k : Nat) (acc : List Int), n < 18446744073709551616 → (numEnc n).length ≤ k → acc.length + (numEnc n).length < 140737488355328 → code_Num.l0 k (n : Int) acc = some (acc ++ numEnc n) := by
  induction n using Nat.strongRecOn with
  | _ n ih =>
    intro k acc hn hk hl
    have hp := numEnc_pos n
    obtain ⟨k, rfl⟩ : ∃ m, k = m + 1 := ⟨k - 1, by omega⟩
    by_cases h : n < 128
    · rw [numEnc_lt h] at hl ⊢
      simp only [code_Num.l0]
      rw [if_neg (by omega), if_pos (by simp at hl; omega)]
      rw [show (n : Int) % 256 = n by omega]
    · rw [numEnc_ge h] at hl hk ⊢
      simp only [List.length_cons] at hl hk
      simp only [code_Num.l0]
      rw [if_pos (by omega), if_pos (by omega)]
      rw [u64_and127 (by omega) (by omega), u8_or_128 (by omega) (by omega)]
      have := ih (n / 128) (by omega) k (acc ++ [((n % 128 + 128 : Nat) : Int)]) (by omega) (by omega) (by simp; omega)
      rw [show ((n : Int) / 128) = ((n / 128 : Nat) : Int) by omega, show ((n : Int) % 128 % 256 + 128) = ((n % 128 + 128 : Nat) : Int) by omega, this]
      simp
theorem len10 {n : Nat} (h : n < 18446744073709551616) : (numEnc n).length ≤ 10 := numEnc_len n 9 (by omega)
theorem code_Num_ev (n : Int) (h0 : 0 ≤ n) (h1 : n < 18446744073709551616) : Ev (fun k => code_Num.f k n) (numEnc n.toNat) := by
  refine ⟨10, fun k hk => ?_⟩
  have hl := len10 (n := n.toNat) (by omega)
  have := code_Num_l0 n.toNat k [] (by omega) (by omega) (by simp; omega)
  rw [Int.toNat_of_nonneg h0] at this
  unfold code_Num.f; simpa using this

theorem ref_Num_l0 (n : Nat) : ∀ (k : Nat) (acc : List Int), n < 18446744073709551616 → (numEnc n).length ≤ k → acc.length + (numEnc n).length < 140737488355328 → lienref02_Num.l0 k (n : Int) acc = some (acc ++ numEnc n) := by
  induction n using Nat.strongRecOn with
  | _ n ih =>
    intro k acc hn hk hl
    have hp := numEnc_pos n
    obtain ⟨k, rfl⟩ : ∃ m, k = m + 1 := ⟨k - 1, by omega⟩
    by_cases h : n < 128
    · rw [numEnc_lt h] at hl ⊢
      simp only [lienref02_Num.l0]
      rw [if_neg (by omega), if_pos (by simp at hl; omega)]
      rw [show (n : Int) % 256 = n by omega]
    · rw [numEnc_ge h] at hl hk ⊢
      simp only [List.length_cons] at hl hk
      simp only [lienref02_Num.l0]
      rw [if_pos (by omega), if_pos (by omega)]
      rw [Int.tdiv_eq_ediv_of_nonneg (by omega), Int.tmod_eq_emod_of_nonneg (by omega), wu64, wu64]
      have := ih (n / 128) (by omega) k (acc ++ [((n % 128 + 128 : Nat) : Int)]) (by omega) (by omega) (by simp; omega)
      rw [show ((n : Int) / 128 % 18446744073709551616) = ((n / 128 : Nat) : Int) by omega, show (((n : Int) % 128 + 128) % 18446744073709551616 % 256) = ((n % 128 + 128 : Nat) : Int) by omega, this]
      simp
theorem ref_Num_ev (n : Int) (h0 : 0 ≤ n) (h1 : n < 18446744073709551616) : Ev (fun k => lienref02_Num.f k n) (numEnc n.toNat) := by
  refine ⟨10, fun k hk => ?_⟩
  have hl := numEnc_len n.toNat 9 (by omega)
  have := ref_Num_l0 n.toNat k [] (by omega) (by omega) (by simp; omega)
  rw [Int.toNat_of_nonneg h0] at this
  unfold lienref02_Num.f; simpa using this

def dec : Nat → List Int → Option (Nat × List Int)
  | _, [] => none
  | i, c :: t => if 10 ≤ i ∨ (i = 9 ∧ c > 1) then none else if c < 128 then (if c = 0 ∧ 0 < i then none else some (c.toNat, t)) else (dec (i + 1) t).map fun p => ((c % 128).toNat + 128 * p.1, p.2)
def decRes (n i : Nat) : Option (Nat × List Int) → Int × List Int × Bool
  | none => (0, [], false)
  | some (v, r) => (((n + 2 ^ (7 * i) * v : Nat) : Int), r, true)
theorem dec_ten (l : List Int) (i : Nat) (h : 10 ≤ i) : dec i l = none := by
  cases l with
  | nil => rfl
  | cons c t => rw [dec, if_pos (.inl h)]
theorem pow7_succ (i : Nat) : 2 ^ (7 * (i + 1)) = 2 ^ (7 * i) * 128 := by rw [Nat.mul_add, Nat.pow_add]
theorem pow7_le {i : Nat} (h : i ≤ 9) : 2 ^ (7 * i) ≤ 9223372036854775808 := Nat.le_trans (Nat.pow_le_pow_right (by decide) (show 7 * i ≤ 63 by omega)) (by decide)
theorem pow7_le8 {i : Nat} (h : i ≤ 8) : 2 ^ (7 * i) ≤ 72057594037927936 := Nat.le_trans (Nat.pow_le_pow_right (by decide) (show 7 * i ≤ 56 by omega)) (by decide)
/-- The seven bits of one byte, put in their place. -/
theorem take_step {n i : Nat} {c : Int} (hn : n < 2 ^ (7 * i)) (hi : i ≤ 9) (h0 : 0 ≤ c) (h1 : c < 256) (h9 : i = 9 → c ≤ 1) :
    Go.bits .or .u64 (n : Int) (shl .u64 (IntKind.u64.wrap (Go.bits .and .u8 c 127)) (IntKind.u64.wrap (7 * (IntKind.u64.wrap (i : Int))))) = ((n + 2 ^ (7 * i) * (c % 128).toNat : Nat) : Int) := by
  rw [u8_and127 h0 h1, wu64 (c % 128), wu64 (i : Int), wu64 (7 * _)]
  rw [show c % 128 % 18446744073709551616 = c % 128 by omega, show (7 * ((i : Int) % 18446744073709551616)) % 18446744073709551616 = ((7 * i : Nat) : Int) by omega]
  unfold shl
  rw [Int.toNat_natCast, Nat.min_eq_left (by simp [IntKind.bits]; omega), wu64]
  obtain ⟨m, hm⟩ : ∃ m : Nat, c % 128 = (m : Int) := ⟨(c % 128).toNat, by omega⟩
  rw [hm, Int.toNat_natCast]
  have hp := pow7_le hi
  have hlt : 2 ^ (7 * i) * m < 18446744073709551616 := by
    by_cases e : i = 9
    · subst e
      have := h9 rfl
      have : m ≤ 1 := by omega
      have h2 : 2 ^ (7 * 9) * m ≤ 2 ^ (7 * 9) * 1 := Nat.mul_le_mul_left _ this
      omega
    · have h8 := pow7_le8 (i := i) (by omega)
      have : m ≤ 127 := by omega
      have h2 : 2 ^ (7 * i) * m ≤ 72057594037927936 * 127 := Nat.mul_le_mul h8 this
      omega
  have e1 : ((m : Int) * 2 ^ (7 * i)) = ((2 ^ (7 * i) * m : Nat) : Int) := by rw [Int.natCast_mul, Int.mul_comm, Int.natCast_pow]; rfl
  rw [e1, show (((2 ^ (7 * i) * m : Nat) : Int) % 18446744073709551616) = ((2 ^ (7 * i) * m : Nat) : Int) by omega, bits_comm_or]
  rw [u64_join (7 * i) (by omega) (by exact_mod_cast Nat.mul_mod_right _ _) (by omega) (by omega) (by exact_mod_cast hn) (by omega)]
  push_cast
  omega

theorem behind_at (l : List Int) (i : Nat) (h : i ≤ l.length) (hl : l.length ≤ 140737488351232) : code_behind.f l (i : Int) = some (l.drop i) := by
  unfold code_behind.f
  simp only [Option.bind_some]
  rw [if_pos (by omega), if_pos (by omega), if_pos (by simp; omega)]
  simp

theorem code_TakeNum_l0 (l : List Int) (hb : Byt l) (hl : l.length ≤ 140737488351232) (d : Nat) : ∀ (i k n : Nat), l.length - i = d → i ≤ l.length → i ≤ 10 → n < 2 ^ (7 * i) → 2 * d + 2 ≤ k →
    code_TakeNum.l0 k l (n : Int) l (l.length : Int) (i : Int) = some (decRes n i (dec i (l.drop i))) := by
  induction d with
  | zero =>
    intro i k n hd hi h10 hn hk
    obtain ⟨k, rfl⟩ : ∃ m, k = m + 1 := ⟨k - 1, by omega⟩
    simp only [code_TakeNum.l0]
    rw [if_neg (by omega), List.drop_eq_nil_of_le (by omega)]; rfl
  | succ d ih =>
    intro i k n hd hi h10 hn hk
    obtain ⟨k, rfl⟩ : ∃ m, k = m + 1 + 1 := ⟨k - 2, by omega⟩
    have hlt : i < l.length := by omega
    obtain ⟨c0, c1⟩ := hb.rd (i : Int)
    rw [rd_drop hlt]
    simp only [code_TakeNum.l0]
    rw [if_pos (by omega), if_pos (by omega), if_pos (by omega)]
    generalize hc : rd l (i : Int) = c at c0 c1 ⊢
    by_cases bad : 10 ≤ i ∨ (i = 9 ∧ c > 1)
    · rw [dec, if_pos bad]
      rcases bad with bad | ⟨e, bad⟩
      · rw [if_neg (by omega), decide_eq_true (by omega)]
        simp only [code_TakeNum.j1]; rfl
      · rw [if_pos (by omega), if_pos bad]
        simp only [code_TakeNum.j1]; rfl
    · have h9 : i ≤ 9 := by omega
      have hc1 : i = 9 → c ≤ 1 := by omega
      have e : (if (i : Int) = 9 then (if c > 1 then (code_TakeNum.j1 (k + 1) l (n : Int) (i : Int) c l (l.length : Int) (i : Int) true) else (code_TakeNum.j1 (k + 1) l (n : Int) (i : Int) c l (l.length : Int) (i : Int) (decide ((i : Int) > 9)))) else (code_TakeNum.j1 (k + 1) l (n : Int) (i : Int) c l (l.length : Int) (i : Int) (decide ((i : Int) > 9)))) = code_TakeNum.j1 (k + 1) l (n : Int) (i : Int) c l (l.length : Int) (i : Int) false := by
        rw [decide_eq_false (by omega : ¬ (i : Int) > 9)]
        split
        · rw [if_neg (by omega)]
        · rfl
      rw [e, dec, if_neg bad]
      clear e
      simp only [code_TakeNum.j1]
      rw [if_neg (by decide), if_pos (by rw [wu64]; omega), take_step hn h9 c0 c1 hc1, wrap64_id (x := (i : Int) + 1) (by omega) (by omega)]
      by_cases h128 : c < 128
      · rw [if_pos h128, if_pos h128]
        rw [show ((i : Int) + 1) = ((i + 1 : Nat) : Int) by omega, behind_at l (i + 1) (by omega) hl]
        simp only [Option.bind_some]
        have hv : (c % 128).toNat = c.toNat := by rw [show c % 128 = c by omega]
        rw [hv]
        by_cases hz : c = 0
        · rw [if_pos hz]
          by_cases hi0 : 0 < i
          · rw [if_pos (by omega), if_pos ⟨hz, hi0⟩]; rfl
          · rw [if_neg (by omega), if_neg (by omega)]; rfl
        · rw [if_neg hz, if_neg (by omega)]; rfl
      · rw [if_neg h128, if_neg h128]
        rw [show ((i : Int) + 1) = ((i + 1 : Nat) : Int) by omega]
        have hm : (c % 128).toNat < 128 := by omega
        have hlt2 : n + 2 ^ (7 * i) * (c % 128).toNat < 2 ^ (7 * (i + 1)) := by
          rw [pow7_succ]
          have := Nat.mul_le_mul_left (2 ^ (7 * i)) (show (c % 128).toNat + 1 ≤ 128 by omega)
          rw [Nat.mul_add] at this
          omega
        rw [ih (i + 1) k _ (by omega) (by omega) (by omega) hlt2 (by omega)]
        congr 1
        cases dec (i + 1) (l.drop (i + 1)) with
        | none => rfl
        | some p =>
          obtain ⟨v, r⟩ := p
          simp only [decRes, Option.map_some]
          congr 2
          rw [pow7_succ, Nat.mul_add, Nat.add_assoc, Nat.mul_assoc]
theorem code_TakeNum_ev (l : List Int) (hb : Byt l) (hl : l.length ≤ 140737488351232) : Ev (fun k => code_TakeNum.f k l) (decRes 0 0 (dec 0 l)) := by
  refine ⟨2 * l.length + 2, fun k hk => ?_⟩
  unfold code_TakeNum.f
  have := code_TakeNum_l0 l hb hl l.length 0 k 0 (by omega) (by omega) (by omega) (by omega) (by omega)
  simpa using this

def valL : List Int → Nat
  | [] => 0
  | c :: t => (c % 128).toNat + 128 * valL t
theorem valL_lt (l : List Int) : valL l < 128 ^ l.length := by
  induction l with
  | nil => simp [valL]
  | cons c t ih =>
    simp only [valL, List.length_cons, Nat.pow_succ]
    omega
theorem valL_lt2 (l : List Int) (b : Int) (hb : b < 128) (h0 : 0 ≤ b) : valL (l ++ [b]) < (b.toNat + 1) * 128 ^ l.length ∧ b.toNat * 128 ^ l.length ≤ valL (l ++ [b]) := by
  induction l with
  | nil => simp [valL]; omega
  | cons c t ih =>
    obtain ⟨i1, i2⟩ := ih
    simp only [valL, List.cons_append, List.length_cons, Nat.pow_succ]
    rw [← Nat.mul_assoc, ← Nat.mul_assoc]
    omega
theorem numEnc_len_ge (n : Nat) : ∀ d, 128 ^ d ≤ n → d + 1 ≤ (numEnc n).length := by
  induction n using Nat.strongRecOn with
  | _ n ih =>
    intro d hd
    cases d with
    | zero => exact numEnc_pos n
    | succ d =>
      have h : ¬ n < 128 := by
        have := Nat.one_le_pow d 128 (by decide)
        rw [Nat.pow_succ] at hd
        omega
      rw [numEnc_ge h]
      have := ih (n / 128) (by omega) d (by rw [Nat.pow_succ] at hd; exact (Nat.le_div_iff_mul_le (by decide)).mpr hd)
      simp; omega
/-- All bytes ahead of one below 128 bear a further one. -/
theorem dec_run (p : List Int) (b : Int) (r : List Int) (hb : b < 128) (hp : ∀ c ∈ p, 128 ≤ c) : ∀ i, i + p.length ≤ 9 →
    dec i (p ++ b :: r) = if (i + p.length = 9 ∧ b > 1) ∨ (b = 0 ∧ 0 < i + p.length) then none else some (valL (p ++ [(b.toNat : Int)]), r) := by
  induction p with
  | nil =>
    intro i hi
    simp only [List.nil_append, List.length_nil, Nat.add_zero] at hi ⊢
    rw [dec]
    by_cases c1 : i = 9 ∧ b > 1
    · rw [if_pos (.inr c1), if_pos (.inl c1)]
    · rw [if_neg (by omega), if_pos hb]
      by_cases c2 : b = 0 ∧ 0 < i
      · rw [if_pos c2, if_pos (.inr c2)]
      · rw [if_neg c2, if_neg (by omega)]
        simp [valL]; omega
  | cons c t ih =>
    intro i hi
    simp only [List.length_cons] at hi
    have hc := hp c (List.mem_cons_self ..)
    simp only [List.cons_append, List.length_cons]
    rw [dec, if_neg (by omega), if_neg (by omega), ih (fun x hx => hp x (List.mem_cons_of_mem _ hx)) (i + 1) (by omega)]
    rw [show i + 1 + t.length = i + (t.length + 1) by omega]
    split
    · rfl
    · simp [valL]
theorem dec_long (p : List Int) (r : List Int) (hp : ∀ c ∈ p, 128 ≤ c) : ∀ i, i + p.length = 10 → dec i (p ++ r) = none := by
  induction p with
  | nil => intro i hi; exact dec_ten _ _ (by simp at hi; omega)
  | cons c t ih =>
    intro i hi
    simp only [List.length_cons] at hi
    have hc := hp c (List.mem_cons_self ..)
    rw [List.cons_append, dec]
    split
    · rfl
    · rw [if_neg (by omega), ih (fun x hx => hp x (List.mem_cons_of_mem _ hx)) (i + 1) (by omega)]; rfl
theorem dec_all (p : List Int) (hp : ∀ c ∈ p, 128 ≤ c) : ∀ i, dec i p = none := by
  induction p with
  | nil => intro i; rfl
  | cons c t ih =>
    intro i
    have hc := hp c (List.mem_cons_self ..)
    rw [dec]
    split
    · rfl
    · rw [if_neg (by omega), ih (fun x hx => hp x (List.mem_cons_of_mem _ hx)) (i + 1)]; rfl

theorem ref_scan (l : List Int) (hl : l.length ≤ 140737488351232) (d : Nat) : ∀ i : Nat, 10 - i = d → i ≤ 10 → i ≤ l.length → (∀ j : Nat, j < i → 128 ≤ rd l (j : Int)) →
    ∃ n c : Nat, n ≤ 10 ∧ n ≤ l.length ∧ (∀ j : Nat, j < n → 128 ≤ rd l (j : Int)) ∧ (n = l.length ∨ n = 10 ∨ rd l (n : Int) < 128) ∧ ∀ k, lienref02_TakeNum.l0 (k + c) l (i : Int) = lienref02_TakeNum.j1 k l (n : Int) := by
  induction d with
  | zero =>
    intro i hd hi hil hp
    refine ⟨i, 1, hi, hil, hp, .inr (.inl (by omega)), fun k => ?_⟩
    simp only [lienref02_TakeNum.l0]
    split
    · rw [if_neg (by omega)]
    · rfl
  | succ d ih =>
    intro i hd hi hil hp
    by_cases e : i = l.length
    · refine ⟨i, 1, hi, hil, hp, .inl e, fun k => ?_⟩
      simp only [lienref02_TakeNum.l0]
      rw [if_neg (by omega)]
    · by_cases hc : rd l (i : Int) ≥ 128
      · obtain ⟨n, c, h1, h2, h3, h4, h5⟩ := ih (i + 1) (by omega) (by omega) (by omega) (fun j hj => by
          by_cases e : j = i
          · subst e; exact hc
          · exact hp j (by omega))
        refine ⟨n, c + 1, h1, h2, h3, h4, fun k => ?_⟩
        rw [show k + (c + 1) = (k + c) + 1 by omega]
        simp only [lienref02_TakeNum.l0]
        rw [if_pos (by omega), if_pos (by omega), if_pos (by omega), if_pos hc, wrap64_id (by omega) (by omega), show ((i : Int) + 1) = ((i + 1 : Nat) : Int) by omega]
        exact h5 k
      · refine ⟨i, 1, hi, hil, hp, .inr (.inr (by omega)), fun k => ?_⟩
        simp only [lienref02_TakeNum.l0]
        rw [if_pos (by omega), if_pos (by omega), if_pos (by omega), if_neg hc]
theorem drop_take_at {l : List Int} {n m : Nat} (hm : m ≤ n) (hn : n < l.length) : (l.take (n + 1)).drop m = rd l (m : Int) :: (l.take (n + 1)).drop (m + 1) := by
  have hlen : m < (l.take (n + 1)).length := by rw [List.length_take]; omega
  rw [rd_drop hlen, rd_nat, rd_nat, List.getD_eq_getElem?_getD, List.getD_eq_getElem?_getD, List.getElem?_take_of_lt (by omega)]
theorem ref_down (l : List Int) (hb : Byt l) (hl : l.length ≤ 140737488351232) (n : Nat) (hn : n < l.length) (j : Nat) (d : Nat) : ∀ m, m = j + d → m ≤ n + 1 → (∀ i, j ≤ i → i < m → valL ((l.take (n + 1)).drop (i + 1)) ≤ 144115188075855871) →
    ∀ k, lienref02_TakeNum.l1 (k + d) l (n : Int) (valL ((l.take (n + 1)).drop m) : Int) ((m : Int) - 1) = lienref02_TakeNum.l1 k l (n : Int) (valL ((l.take (n + 1)).drop j) : Int) ((j : Int) - 1) := by
  induction d with
  | zero => intro m hm _ _ k; subst hm; rfl
  | succ d ih =>
    intro m hm hmn hv k
    obtain ⟨i, rfl⟩ : ∃ i, m = i + 1 := ⟨m - 1, by omega⟩
    have hvi := hv i (by omega) (by omega)
    have hat := drop_take_at (l := l) (n := n) (m := i) (by omega) hn
    obtain ⟨c0, c1⟩ := hb.rd (i : Int)
    rw [show k + (d + 1) = (k + d) + 1 by omega]
    rw [lienref02_TakeNum.l1]
    rw [if_pos (by omega), if_neg (by omega), if_pos (by omega), if_pos (by omega)]
    have e1 : ((i + 1 : Nat) : Int) - 1 = (i : Int) := by omega
    rw [e1, wrap64_id (by omega) (by omega), Int.tmod_eq_emod_of_nonneg c0, wu64, wu64, wu64]
    have hV : valL ((l.take (n + 1)).drop i) = (rd l (i : Int) % 128).toNat + 128 * valL ((l.take (n + 1)).drop (i + 1)) := by rw [hat]; rfl
    have e2 : ((valL ((l.take (n + 1)).drop (i + 1)) : Int) * 128 % 18446744073709551616 + rd l (i : Int) % 128 % 18446744073709551616) % 18446744073709551616 = (valL ((l.take (n + 1)).drop i) : Int) := by rw [hV]; omega
    rw [e2]
    exact ih i (by omega) (by omega) (fun x hx hx2 => hv x hx (by omega)) k
theorem num_len_eq {V n : Nat} (h1 : V < 128 ^ (n + 1)) (h2 : 128 ^ n ≤ V ∨ n = 0) : (numEnc V).length = n + 1 := by
  have u1 := numEnc_len V n h1
  rcases h2 with h2 | h2
  · have u2 := numEnc_len_ge V n h2
    exact Nat.le_antisymm u1 u2
  · subst h2
    have := numEnc_pos V
    exact Nat.le_antisymm u1 this
theorem num_len_ne {V n : Nat} (h1 : V < 128 ^ n) (h0 : 0 < n) : (numEnc V).length ≠ n + 1 := by
  obtain ⟨m, rfl⟩ : ∃ m, n = m + 1 := ⟨n - 1, by omega⟩
  have u1 := numEnc_len V m h1
  intro e
  rw [e] at u1
  exact absurd u1 (by omega)
theorem ref_last (l : List Int) (n V k : Nat) (b : Int) (hl : l.length ≤ 140737488351232) (hlt : n < l.length) (c0 : 0 ≤ b) (hV64 : V < 18446744073709551616) (hVle : V < 128 ^ (n + 1))
    (vb1 : V < (b.toNat + 1) * 128 ^ n) (vb2 : b.toNat * 128 ^ n ≤ V) (d : Option (Nat × List Int)) (hd : d = if (n = 9 ∧ b > 1) ∨ (b = 0 ∧ 0 < n) then none else some (V, l.drop (n + 1))) (hk : 12 ≤ k) :
    lienref02_TakeNum.l1 k l (n : Int) (V : Int) (-1) = some (decRes 0 0 d) := by
  obtain ⟨k, rfl⟩ : ∃ m, k = m + 1 := ⟨k - 1, by omega⟩
  have hl10 := len10 hV64
  have hnf : lienref02_Num.f k (V : Int) = some (numEnc V) := by
    unfold lienref02_Num.f
    rw [ref_Num_l0 V k [] hV64 (by omega) (by rw [List.length_nil]; omega), List.nil_append]
  have hw : wrap64 ((n : Int) + 1) = (n : Int) + 1 := wrap64_id (by omega) (by omega)
  rw [lienref02_TakeNum.l1, if_neg (by decide), hnf, Option.bind_some, hw]
  clear hnf hl10 hk
  by_cases hz : b = 0 ∧ 0 < n
  · have hV : V < 128 ^ n := by
      rw [hz.1] at vb1
      have e : ((0 : Int).toNat + 1) * 128 ^ n = 128 ^ n := Nat.one_mul _
      rw [e] at vb1
      exact vb1
    have hne := num_len_ne hV hz.2
    have hcond : ¬ (((numEnc V).length : Int) = (n : Int) + 1) := fun e => hne (by exact_mod_cast e)
    rw [if_neg hcond, hd, if_pos (.inr hz), decRes]
  · have hn9 : ¬ (n = 9 ∧ b > 1) := by
      rintro ⟨e, hgt⟩
      have h2 : 2 * 128 ^ n ≤ b.toNat * 128 ^ n := Nat.mul_le_mul_right _ (by omega)
      have h3 := Nat.le_trans h2 vb2
      rw [e] at h3
      have p9 : 2 * 128 ^ 9 = 18446744073709551616 := by decide
      rw [p9] at h3
      omega
    have hlen : (numEnc V).length = n + 1 := num_len_eq hVle (by
      by_cases e0 : n = 0
      · exact .inr e0
      · left
        have h1 : 1 * 128 ^ n ≤ b.toNat * 128 ^ n := Nat.mul_le_mul_right _ (by omega)
        rw [Nat.one_mul] at h1
        exact Nat.le_trans h1 vb2)
    have hcond : ((numEnc V).length : Int) = (n : Int) + 1 := by exact_mod_cast hlen
    have hc2 : (0 : Int) ≤ (n : Int) + 1 := by omega
    have hc3 : (n : Int) + 1 ≤ (l.length : Int) := by omega
    have hc4 : ([] : List Int).length + (l.drop ((n : Int) + 1).toNat).length < 140737488355328 := by rw [List.length_drop, List.length_nil]; omega
    rw [if_pos hcond, Option.bind_some, if_pos hc2, if_pos hc3, if_pos hc4, hd, if_neg (fun h => h.elim hn9 hz), decRes, show ((n : Int) + 1).toNat = n + 1 by omega, List.nil_append, Nat.mul_zero, Nat.pow_zero, Nat.one_mul, Nat.zero_add]
theorem ref_TakeNum_ev (l : List Int) (hb : Byt l) (hl : l.length ≤ 140737488351232) : Ev (fun k => lienref02_TakeNum.f k l) (decRes 0 0 (dec 0 l)) := by
  obtain ⟨n, c, h10, hnl, hp, hend, hrun⟩ := ref_scan l hl 10 0 (by omega) (by omega) (by omega) (fun j hj => by omega)
  have hpp : ∀ x ∈ l.take n, 128 ≤ x := by
    intro x hx
    obtain ⟨j, hj, rfl⟩ := List.getElem_of_mem hx
    rw [List.length_take] at hj
    have := hp j (by omega)
    rw [rd_nat, List.getD_eq_getElem?_getD, List.getElem?_eq_getElem (by omega)] at this
    simpa [List.getElem_take] using this
  have hlen : (l.take n).length = n := by rw [List.length_take]; omega
  refine ⟨c + 40, fun k hk => ?_⟩
  obtain ⟨k, rfl⟩ : ∃ m, k = (m + 1 + 1) + c := ⟨k - c - 2, by omega⟩
  show lienref02_TakeNum.l0 _ l 0 = _
  have := hrun (k + 1 + 1)
  rw [show ((0 : Nat) : Int) = 0 from rfl] at this
  rw [this]
  simp only [lienref02_TakeNum.j1]
  by_cases e1 : n = l.length
  · rw [if_pos (by omega)]
    simp only [lienref02_TakeNum.j2]
    rw [if_pos trivial]
    have hall := dec_all l (by have := hpp; rwa [List.take_of_length_le (by omega)] at this) 0
    rw [hall]; rfl
  · rw [if_neg (by omega)]
    by_cases e2 : n = 10
    · rw [beq_iff_eq.mpr (by omega : (n : Int) = 10)]
      simp only [lienref02_TakeNum.j2]
      rw [if_pos trivial]
      have hlong := dec_long (l.take n) (l.drop n) hpp 0 (by omega)
      rw [List.take_append_drop] at hlong
      rw [hlong]; rfl
    · rw [beq_eq_false_iff_ne.mpr (by omega : (n : Int) ≠ 10)]
      simp only [lienref02_TakeNum.j2]
      rw [if_neg (by decide)]
      have hlt : n < l.length := by omega
      have hbn : rd l (n : Int) < 128 := by omega
      obtain ⟨c0, c1⟩ := hb.rd (n : Int)
      have hdec := dec_run (l.take n) (rd l (n : Int)) (l.drop (n + 1)) hbn hpp 0 (by omega)
      rw [← rd_drop hlt, List.take_append_drop, hlen] at hdec
      have htk : l.take (n + 1) = l.take n ++ [rd l (n : Int)] := by
        rw [List.take_succ_eq_append_getElem hlt, rd_nat, List.getD_eq_getElem?_getD, List.getElem?_eq_getElem hlt]; rfl
      have hcast : [((rd l (n : Int)).toNat : Int)] = [rd l (n : Int)] := by rw [Int.toNat_of_nonneg c0]
      have hv0 : valL ((l.take (n + 1)).drop (n + 1)) = 0 := by rw [List.drop_eq_nil_of_le (by rw [List.length_take]; omega)]; rfl
      have hvlt : ∀ i, i ≤ n + 1 → valL ((l.take (n + 1)).drop i) < 128 ^ (n + 1 - i) := fun i hi => by
        have := valL_lt ((l.take (n + 1)).drop i)
        rwa [List.length_drop, List.length_take, Nat.min_eq_left (by omega)] at this
      have hpow : ∀ i, i ≤ 8 → 128 ^ i ≤ 72057594037927936 := fun i hi => Nat.le_trans (Nat.pow_le_pow_right (by decide) hi) (by decide)
      obtain ⟨vb1, vb2⟩ := valL_lt2 (l.take n) (rd l (n : Int)) hbn c0
      rw [← htk, hlen] at vb1 vb2
      have hsmall : ∀ i, 1 ≤ i → i ≤ n → valL ((l.take (n + 1)).drop (i + 1)) ≤ 144115188075855871 := fun i h1 h2 => by
        have a1 := hvlt (i + 1) (by omega)
        have a2 := hpow (n + 1 - (i + 1)) (by omega)
        omega
      have hstep := ref_down l hb hl n hlt 1 n (n + 1) (by omega) (by omega) (fun i h1 h2 => hsmall i h1 (by omega))
      have hs1 := hstep (k - n)
      rw [show k - n + n = k by omega, hv0, show (((n + 1 : Nat) : Int) - 1) = (n : Int) by omega, show ((1 : Nat) : Int) - 1 = 0 from rfl] at hs1
      rw [show ((0 : Nat) : Int) = 0 from rfl] at hs1
      rw [hs1]
      have hV0 : valL (l.take (n + 1)) = (rd l 0 % 128).toNat + 128 * valL ((l.take (n + 1)).drop 1) := by
        have := drop_take_at (l := l) (n := n) (m := 0) (by omega) hlt
        rw [List.drop_zero] at this
        conv => lhs; rw [this]
        rfl
      have p9 : 128 ^ 9 = 9223372036854775808 := by decide
      generalize hV : valL (l.take (n + 1)) = V at *
      generalize hV1 : valL ((l.take (n + 1)).drop 1) = V1 at *
      generalize hbv : rd l (n : Int) = b at *
      by_cases big : 144115188075855871 < V1
      · obtain ⟨k2, hk2⟩ : ∃ m, k - n = m + 1 := ⟨k - n - 1, by omega⟩
        rw [hk2]
        simp only [lienref02_TakeNum.l1]
        rw [if_pos (by omega), if_pos (by omega)]
        have h9 : n = 9 := by
          by_cases e : n ≤ 8
          · have a1 := hvlt 1 (by omega)
            have a2 := hpow (n + 1 - 1) (by omega)
            omega
          · omega
        have hb1 : b > 1 := by
          by_cases e : b > 1
          · exact e
          · have h2 : (b.toNat + 1) * 128 ^ n ≤ 2 * 128 ^ n := Nat.mul_le_mul_right _ (by omega)
            rw [h9, p9] at h2
            rw [h9, p9] at vb1
            omega
        rw [hdec, if_pos (.inl ⟨by omega, hb1⟩)]
        rfl
      · have hs2 := ref_down l hb hl n hlt 0 1 1 (by omega) (by omega) (fun i h1 h2 => by
          have : i = 0 := by omega
          subst this
          show valL ((l.take (n + 1)).drop 1) ≤ _
          rw [hV1]
          omega)
        have hs3 := hs2 (k - n - 1)
        rw [show k - n - 1 + 1 = k - n by omega, show ((1 : Nat) : Int) - 1 = 0 from rfl, List.drop_zero, show (((0 : Nat) : Int) - 1) = -1 from rfl, hV, hV1] at hs3
        rw [hs3]
        exact ref_last l n V (k - n - 1) b hl hlt c0 (by omega) (by have := hvlt 0 (by omega); rw [List.drop_zero, hV] at this; exact this) vb1 vb2 (dec 0 l) (by rw [hdec, Int.toNat_of_nonneg c0, ← htk, hV, Nat.zero_add]) (by omega)

theorem dec_suf (l : List Int) : ∀ (i v : Nat) (r : List Int), dec i l = some (v, r) → r.length ≤ l.length ∧ (∀ x ∈ r, x ∈ l) := by
  induction l with
  | nil => intro i v r h; simp [dec] at h
  | cons c t ih =>
    intro i v r h
    rw [dec] at h
    split at h
    · cases h
    · split at h
      · split at h
        · cases h
        · simp only [Option.some.injEq, Prod.mk.injEq] at h
          obtain ⟨_, rfl⟩ := h
          exact ⟨by simp, fun x hx => List.mem_cons_of_mem _ hx⟩
      · rw [Option.map_eq_some_iff] at h
        obtain ⟨⟨v2, r2⟩, h1, h2⟩ := h
        simp only [Prod.mk.injEq] at h2
        obtain ⟨_, rfl⟩ := h2
        obtain ⟨a, b⟩ := ih (i + 1) v2 r2 h1
        exact ⟨by simp; omega, fun x hx => List.mem_cons_of_mem _ (b x hx)⟩
def ttOf (most : Int) : Option (Nat × List Int) → ByteArray × List Int × Bool
  | none => (⟨#[]⟩, [], false)
  | some (n, r) => if most < 0 ∨ (n : Int) > most ∨ r.length < n then (⟨#[]⟩, [], false) else (strOfNums (r.take n), r.drop n, true)
theorem decRes00 (d : Option (Nat × List Int)) : decRes 0 0 d = match d with | none => (0, [], false) | some (v, r) => ((v : Int), r, true) := by
  cases d with
  | none => rfl
  | some p => obtain ⟨v, r⟩ := p; simp [decRes]
theorem bytesOf_byt (s : ByteArray) : Byt (bytesOf s) := by
  intro x hx
  unfold PrintWords.bytesOf at hx
  obtain ⟨b, _, rfl⟩ := List.mem_map.mp hx
  have := b.toNat_lt
  omega

theorem code_TakeText_ev (l : List Int) (most : Int) (hb : Byt l) (hl : l.length ≤ 140737488351232) (hm0 : -9223372036854775808 ≤ most) (hm1 : most ≤ 9223372036854775807) : Ev (fun k => code_TakeText.f k l most) (ttOf most (dec 0 l)) := by
  unfold code_TakeText.f
  refine Ev.bind (code_TakeNum_ev l hb hl) ?_
  rw [decRes00]
  cases hd : dec 0 l with
  | none => exact Ev.now _
  | some p =>
    obtain ⟨n, r⟩ := p
    obtain ⟨hr, _⟩ := dec_suf l 0 n r hd
    simp only [ttOf]
    rw [if_pos trivial]
    by_cases c1 : most < 0
    · rw [if_pos c1, if_pos (.inl c1)]; exact Ev.now _
    · rw [if_neg c1]
      have e1 : IntKind.u64.wrap most = most := by rw [wu64]; omega
      have e2 : IntKind.u64.wrap (r.length : Int) = (r.length : Int) := by rw [wu64]; omega
      rw [e1, e2]
      by_cases c2 : (n : Int) > most
      · rw [if_pos c2, if_pos (.inr (.inl c2))]; exact Ev.now _
      · rw [if_neg c2]
        by_cases c3 : r.length < n
        · rw [if_pos (show (n : Int) > (r.length : Int) by omega), if_pos (.inr (.inr c3))]; exact Ev.now _
        · rw [if_neg (show ¬ ((n : Int) > (r.length : Int)) by omega), if_pos (show (0 : Int) ≤ (n : Int) by omega), if_pos (show (n : Int) ≤ (r.length : Int) by omega), if_neg (show ¬ (most < 0 ∨ (n : Int) > most ∨ r.length < n) by omega), wrap64_id (by omega) (by omega), behind_at r n (by omega) (by omega), Option.bind_some, Int.toNat_natCast]
          exact Ev.now _
theorem code_Text_ev (s : ByteArray) (hs : s.size ≤ 140737488351232) : Ev (fun k => code_Text.f k s) (numEnc s.size ++ bytesOf s) := by
  unfold code_Text.f
  have e : IntKind.u64.wrap (s.size : Int) = (s.size : Int) := by rw [wu64]; omega
  rw [e]
  refine Ev.bind (code_Num_ev (s.size : Int) (by omega) (by omega)) ?_
  have := len10 (n := s.size) (by omega)
  rw [Int.toNat_natCast, if_pos (by omega)]
  exact Ev.now _

theorem ref_TakeText_ev (l : List Int) (most : Int) (hb : Byt l) (hl : l.length ≤ 140737488351232) (hm0 : -9223372036854775808 ≤ most) (hm1 : most ≤ 9223372036854775807) : Ev (fun k => lienref02_TakeText.f k l most) (ttOf most (dec 0 l)) := by
  unfold lienref02_TakeText.f
  refine Ev.bind (ref_TakeNum_ev l hb hl) ?_
  rw [decRes00]
  cases hd : dec 0 l with
  | none => exact Ev.now _
  | some p =>
    obtain ⟨n, r⟩ := p
    obtain ⟨hr, _⟩ := dec_suf l 0 n r hd
    simp only [ttOf]
    rw [if_pos trivial]
    by_cases c1 : most < 0
    · rw [if_pos c1, if_pos (.inl c1)]; exact Ev.now _
    · rw [if_neg c1]
      have e1 : IntKind.u64.wrap most = most := by rw [wu64]; omega
      have e2 : IntKind.u64.wrap (r.length : Int) = (r.length : Int) := by rw [wu64]; omega
      rw [e1, e2]
      by_cases c2 : (n : Int) > most
      · rw [if_pos c2, if_pos (.inr (.inl c2))]; exact Ev.now _
      · rw [if_neg c2]
        by_cases c3 : r.length < n
        · rw [if_pos (show (n : Int) > (r.length : Int) by omega), if_pos (.inr (.inr c3))]; exact Ev.now _
        · rw [if_neg (show ¬ ((n : Int) > (r.length : Int)) by omega), if_pos (show (0 : Int) ≤ (n : Int) by omega), if_pos (show (n : Int) ≤ (r.length : Int) by omega), if_neg (show ¬ (most < 0 ∨ (n : Int) > most ∨ r.length < n) by omega), Int.toNat_natCast]
          exact Ev.now _
theorem ref_Text_ev (s : ByteArray) (hs : s.size ≤ 140737488351232) : Ev (fun k => lienref02_Text.f k s) (numEnc s.size ++ bytesOf s) := by
  unfold lienref02_Text.f
  have e : IntKind.u64.wrap (s.size : Int) = (s.size : Int) := by rw [wu64]; omega
  rw [e]
  refine Ev.bind (ref_Num_ev (s.size : Int) (by omega) (by omega)) ?_
  have := len10 (n := s.size) (by omega)
  rw [Int.toNat_natCast, if_pos (by omega)]
  exact Ev.now _

theorem byt_back {xs : List Int} (h : Byt xs) : (xs.map fun n => ((UInt8.ofNat n.toNat).toNat : Int)) = xs := by
  induction xs with
  | nil => rfl
  | cons c t ih =>
    have hc := h c (List.mem_cons_self ..)
    rw [List.map_cons, ih (fun x hx => h x (List.mem_cons_of_mem _ hx)), UInt8.toNat_ofNat']
    congr 1
    omega
theorem bytesOf_nums {xs : List Int} (h : Byt xs) : bytesOf (strOfNums xs) = xs := by
  rw [bl_bytesOf, bl_nums, List.map_map]
  exact byt_back h
theorem nums_bytesOf (s : ByteArray) : strOfNums (bytesOf s) = s := by
  apply ba_ext
  rw [bl_nums, bl_bytesOf, List.map_map]
  conv => rhs; rw [← List.map_id s.toList]
  apply List.map_congr_left
  intro b _
  simp
theorem nums_size (xs : List Int) : (strOfNums xs).size = xs.length := by rw [← bl_len, bl_nums, List.length_map]
theorem strs_byt (s : ByteArray) : Byt (bytesOf s) := by
  intro x hx
  rw [bl_bytesOf] at hx
  obtain ⟨b, _, rfl⟩ := List.mem_map.mp hx
  have := b.toNat_lt
  omega

def fldOk : Int ⊕ ByteArray → Bool
  | .inl n => decide (0 ≤ n)
  | .inr s => decide ((s.size : Int) ≤ 4096)
def fldEnc : Int ⊕ ByteArray → List Int
  | .inl n => numEnc n.toNat
  | .inr s => numEnc s.size ++ bytesOf s
def wrP (l : List (Int ⊕ ByteArray)) (b : List Int) : Option (List Int) := if l.all fldOk = true then some (b ++ l.flatMap fldEnc) else none
/-- What a field's value may be here. -/
def FldB : Int ⊕ ByteArray → Prop
  | .inl n => n ≤ 9223372036854775807
  | .inr s => s.size ≤ 140737488351232
theorem wireWr_ev : ∀ (l : List (Int ⊕ ByteArray)) (b : List Int), (∀ f ∈ l, FldB f) → b.length + 5000 * l.length ≤ 140737488351232 → Ev (fun k => wireWr k l b) (wrP l b)
  | [], b, _, _ => by
    unfold wrP
    simp only [wireWr, List.all_nil, List.flatMap_nil, List.append_nil, if_true]
    exact Ev.now _
  | .inl n :: l, b, hl, hb => by
    have hn : n ≤ 9223372036854775807 := hl _ List.mem_cons_self
    simp only [List.length_cons] at hb
    simp only [wireWr]
    by_cases h0 : 0 ≤ n
    · simp only [if_pos h0]
      have e : IntKind.u64.wrap n = n := by rw [wu64]; omega
      rw [e]
      refine Ev.bind (code_Num_ev n h0 (by omega)) ?_
      have h10 := len10 (n := n.toNat) (by omega)
      have hlt : b.length + (numEnc n.toNat).length < 140737488355328 := by omega
      simp only [if_pos hlt]
      have ih := wireWr_ev l (b ++ numEnc n.toNat) (fun f hf => hl f (List.mem_cons_of_mem _ hf)) (by rw [List.length_append]; omega)
      have ew : wrP (.inl n :: l) b = wrP l (b ++ numEnc n.toNat) := by
        unfold wrP
        simp only [List.all_cons, fldOk, decide_eq_true h0, Bool.true_and, List.flatMap_cons, fldEnc, List.append_assoc]
      rw [ew]
      exact ih
    · simp only [if_neg h0]
      have ew : wrP (.inl n :: l) b = none := by
        unfold wrP
        simp only [List.all_cons, fldOk, decide_eq_false h0, Bool.false_and]
        rfl
      rw [ew]
      exact Ev.now _
  | .inr s :: l, b, hl, hb => by
    have hn : s.size ≤ 140737488351232 := hl _ List.mem_cons_self
    simp only [List.length_cons] at hb
    simp only [wireWr]
    by_cases h0 : (s.size : Int) ≤ 4096
    · simp only [if_pos h0]
      refine Ev.bind (code_Text_ev s hn) ?_
      have h10 := len10 (n := s.size) (by omega)
      have hbl := bytesOf_length s
      have hlt : b.length + (numEnc s.size ++ bytesOf s).length < 140737488355328 := by rw [List.length_append]; omega
      simp only [if_pos hlt]
      have ih := wireWr_ev l (b ++ (numEnc s.size ++ bytesOf s)) (fun f hf => hl f (List.mem_cons_of_mem _ hf)) (by rw [List.length_append, List.length_append]; omega)
      have ew : wrP (.inr s :: l) b = wrP l (b ++ (numEnc s.size ++ bytesOf s)) := by
        unfold wrP
        simp only [List.all_cons, fldOk, decide_eq_true h0, Bool.true_and, List.flatMap_cons, fldEnc, List.append_assoc]
      rw [ew]
      exact ih
    · simp only [if_neg h0]
      have ew : wrP (.inr s :: l) b = none := by
        unfold wrP
        simp only [List.all_cons, fldOk, decide_eq_false h0, Bool.false_and]
        rfl
      rw [ew]
      exact Ev.now _
/-- Fields taken out of bytes, and what stands behind them. -/
def rdQ : List Bool → List Int → List (Int ⊕ ByteArray) → Option (List (Int ⊕ ByteArray) × List Int)
  | [], b, acc => some (acc, b)
  | false :: l, b, acc => match dec 0 b with
    | none => none
    | some (n, r) => if (n : Int) ≤ 9223372036854775807 then rdQ l r (acc ++ [.inl (n : Int)]) else none
  | true :: l, b, acc => match dec 0 b with
    | none => none
    | some (n, r) => if (n : Int) ≤ 4096 ∧ n ≤ r.length then rdQ l (r.drop n) (acc ++ [.inr (strOfNums (r.take n))]) else none
def rdEnd : Option (List (Int ⊕ ByteArray) × List Int) → Option (List (Int ⊕ ByteArray))
  | some (vs, r) => if r.length = 0 then some vs else none
  | none => none
theorem ttOf_some {n : Nat} {r : List Int} (h : (n : Int) ≤ 4096 ∧ n ≤ r.length) : ttOf 4096 (some (n, r)) = (strOfNums (r.take n), r.drop n, true) := by
  unfold ttOf
  simp only
  rw [if_neg (by omega)]
theorem ttOf_none {n : Nat} {r : List Int} (h : ¬ ((n : Int) ≤ 4096 ∧ n ≤ r.length)) : ttOf 4096 (some (n, r)) = (⟨#[]⟩, [], false) := by
  unfold ttOf
  simp only
  rw [if_pos (by omega)]
theorem wireRd_ev : ∀ (l : List Bool) (b : List Int) (acc : List (Int ⊕ ByteArray)), Byt b → b.length ≤ 140737488351232 → Ev (fun k => wireRd k l b acc) (rdEnd (rdQ l b acc))
  | [], b, acc, _, _ => by
    simp only [wireRd, rdQ, rdEnd]
    exact Ev.now _
  | false :: l, b, acc, hb, hl => by
    simp only [wireRd]
    refine Ev.bind (code_TakeNum_ev b hb hl) ?_
    rw [decRes00, rdQ]
    cases hd : dec 0 b with
    | none => exact Ev.now _
    | some p =>
      obtain ⟨n, r⟩ := p
      obtain ⟨hr, hrm⟩ := dec_suf b 0 n r hd
      simp only [if_true]
      by_cases hn : (n : Int) ≤ 9223372036854775807
      · simp only [if_pos hn]
        rw [wrap64_id (by omega) hn]
        exact wireRd_ev l r _ (fun x hx => hb x (hrm x hx)) (by omega)
      · simp only [if_neg hn]
        exact Ev.now _
  | true :: l, b, acc, hb, hl => by
    simp only [wireRd]
    refine Ev.bind (code_TakeText_ev b 4096 hb hl (by omega) (by omega)) ?_
    rw [rdQ]
    cases hd : dec 0 b with
    | none => exact Ev.now _
    | some p =>
      obtain ⟨n, r⟩ := p
      obtain ⟨hr, hrm⟩ := dec_suf b 0 n r hd
      by_cases hn : (n : Int) ≤ 4096 ∧ n ≤ r.length
      · rw [ttOf_some hn]
        simp only [if_true, if_pos hn]
        exact wireRd_ev l (r.drop n) _ (fun x hx => hb x (hrm x (List.mem_of_mem_drop hx))) (by rw [List.length_drop]; omega)
      · rw [ttOf_none hn]
        simp only [if_neg hn]
        exact Ev.now _
theorem decR_some {b r : List Int} {n : Nat} (h : dec 0 b = some (n, r)) : decRes 0 0 (dec 0 b) = ((n : Int), r, true) := by rw [h, decRes00]
theorem decR_none {b : List Int} (h : dec 0 b = none) : decRes 0 0 (dec 0 b) = (0, [], false) := by rw [h, decRes00]

def toS : Int ⊕ ByteArray → S62
  | .inl n => ⟨false, n, ⟨#[]⟩⟩
  | .inr s => ⟨true, 0, s⟩
theorem rd_toS (vs : List (Int ⊕ ByteArray)) (i : Nat) (h : i < vs.length) : rd_T62 (vs.map toS) (i : Int) = toS vs[i] := by
  unfold rd_T62
  simp [List.getD_eq_getElem?_getD, h]
theorem wrP_cons (f : Int ⊕ ByteArray) (l : List (Int ⊕ ByteArray)) (b : List Int) : wrP (f :: l) b = if fldOk f = true then wrP l (b ++ fldEnc f) else none := by
  unfold wrP
  cases h : fldOk f with
  | true => simp [h, List.append_assoc]
  | false => simp [h]
theorem wrP_nil (b : List Int) : wrP [] b = some b := by simp [wrP]
def refB : Option (List Int) → List Int × Bool
  | some r => (r, true)
  | none => ([], false)
theorem row_l0_ev (vs : List (Int ⊕ ByteArray)) (hv : ∀ f ∈ vs, FldB f) (h8 : vs.length ≤ 8) (d : Nat) : ∀ (i : Nat) (b : List Int), vs.length - i = d → i ≤ vs.length → b.length + 5000 * d ≤ 140737488351232 → Ev (fun k => lienref22_row.l0 k (vs.map toS) b (i : Int)) (refB (wrP (vs.drop i) b)) := by
  induction d with
  | zero =>
    intro i b hd hi hb
    refine Ev.step (f := fun _ => some (b, true)) (fun k => ?_) ?_
    · rw [lienref22_row.l0, if_neg (by rw [List.length_map]; omega)]
    · rw [List.drop_of_length_le (by omega), wrP_nil]
      exact Ev.now _
  | succ d ih =>
    intro i b hd hi hb
    have hlt : i < vs.length := by omega
    rw [List.drop_eq_getElem_cons hlt, wrP_cons]
    have hf := hv vs[i] (List.getElem_mem hlt)
    have hrd := rd_toS vs i hlt
    obtain ⟨f, hfe⟩ : ∃ f, vs[i] = f := ⟨_, rfl⟩
    rw [hfe] at hf hrd ⊢
    have hw : wrap64 ((i : Int) + 1) = ((i + 1 : Nat) : Int) := by unfold wrap64; omega
    cases f with
    | inl n =>
      have r0 : (rd_T62 (vs.map toS) (i : Int)).f0 = false := by rw [hrd]; rfl
      have r1 : (rd_T62 (vs.map toS) (i : Int)).f1 = n := by rw [hrd]; rfl
      have hf' : n ≤ 9223372036854775807 := hf
      by_cases h0 : 0 ≤ n
      · refine Ev.step (f := fun k => (lienref02_Num.f k n).bind fun t => if b.length + t.length < 140737488355328 then lienref22_row.l0 k (vs.map toS) (b ++ t) ((i + 1 : Nat) : Int) else none) (fun k => ?_) ?_
        · rw [lienref22_row.l0, if_pos (by rw [List.length_map]; omega), if_pos (by omega), if_neg (by rw [r0]; decide), if_neg (by rw [r1]; omega), hw, r1, show IntKind.u64.wrap n = n by rw [wu64]; omega]
        · refine Ev.bind (ref_Num_ev n h0 (by omega)) ?_
          have h10 := len10 (n := n.toNat) (by omega)
          have hlt : b.length + (numEnc n.toNat).length < 140737488355328 := by omega
          simp only [if_pos hlt]
          rw [if_pos (by simp [fldOk, h0])]
          exact ih (i + 1) (b ++ numEnc n.toNat) (by omega) (by omega) (by rw [List.length_append]; omega)
      · refine Ev.step (f := fun _ => some ([], false)) (fun k => ?_) ?_
        · rw [lienref22_row.l0, if_pos (by rw [List.length_map]; omega), if_pos (by omega), if_neg (by rw [r0]; decide), if_pos (by rw [r1]; omega)]
        · rw [if_neg (by simp [fldOk]; omega)]
          exact Ev.now _
    | inr s =>
      have r0 : (rd_T62 (vs.map toS) (i : Int)).f0 = true := by rw [hrd]; rfl
      have r2 : (rd_T62 (vs.map toS) (i : Int)).f2 = s := by rw [hrd]; rfl
      have hf' : s.size ≤ 140737488351232 := hf
      by_cases h0 : (s.size : Int) ≤ 4096
      · refine Ev.step (f := fun k => (lienref02_Text.f k s).bind fun t => if b.length + t.length < 140737488355328 then lienref22_row.l0 k (vs.map toS) (b ++ t) ((i + 1 : Nat) : Int) else none) (fun k => ?_) ?_
        · rw [lienref22_row.l0, if_pos (by rw [List.length_map]; omega), if_pos (by omega), if_pos r0, if_neg (by rw [r2]; omega), hw, r2]
        · refine Ev.bind (ref_Text_ev s hf') ?_
          have h10 := len10 (n := s.size) (by omega)
          have hbl := bytesOf_length s
          have hlt : b.length + (numEnc s.size ++ bytesOf s).length < 140737488355328 := by rw [List.length_append]; omega
          simp only [if_pos hlt]
          rw [if_pos (by simp [fldOk]; omega)]
          exact ih (i + 1) (b ++ (numEnc s.size ++ bytesOf s)) (by omega) (by omega) (by rw [List.length_append, List.length_append]; omega)
      · refine Ev.step (f := fun _ => some ([], false)) (fun k => ?_) ?_
        · rw [lienref22_row.l0, if_pos (by rw [List.length_map]; omega), if_pos (by omega), if_pos r0, if_pos (by rw [r2]; omega)]
        · rw [if_neg (by simp [fldOk]; omega)]
          exact Ev.now _
theorem row_ev (kd : Int) (h0 : 0 ≤ kd) (h1 : kd ≤ 9223372036854775807) (vs : List (Int ⊕ ByteArray)) (hv : ∀ f ∈ vs, FldB f) (h8 : vs.length ≤ 8) : Ev (fun k => lienref22_row.f k kd (vs.map toS)) (refB (wrP vs (numEnc kd.toNat))) := by
  unfold lienref22_row.f
  rw [show IntKind.u64.wrap kd = kd by rw [wu64]; omega]
  refine Ev.bind (ref_Num_ev kd h0 (by omega)) ?_
  have h10 := len10 (n := kd.toNat) (by omega)
  exact row_l0_ev vs hv h8 vs.length 0 _ (by omega) (by omega) (by omega)
def likeS (tys : List Bool) (fs : List S62) : Prop := fs.map (·.f0) = tys
theorem rd_like {tys : List Bool} {fs : List S62} (h : likeS tys fs) (i : Nat) (hi : i < tys.length) : (rd_T62 fs (i : Int)).f0 = tys[i] := by
  unfold likeS at h
  subst h
  have hi' : i < fs.length := by simpa using hi
  unfold rd_T62
  simp [List.getD_eq_getElem?_getD, hi']
def refT : Option (List (Int ⊕ ByteArray) × List Int) → List S62 × Bool
  | some (vs, r) => (vs.map toS, ((r.length : Int) == 0))
  | none => ([], false)
theorem taken_l0_ev (tys : List Bool) (fs : List S62) (hf : likeS tys fs) (h8 : tys.length ≤ 8) (d : Nat) : ∀ (i : Nat) (b : List Int) (acc : List (Int ⊕ ByteArray)), tys.length - i = d → i ≤ tys.length → acc.length ≤ 8 + i → Byt b → b.length ≤ 140737488351232 → Ev (fun k => lienref22_taken.l0 k b fs (acc.map toS) (i : Int)) (refT (rdQ (tys.drop i) b acc)) := by
  have hfl : fs.length = tys.length := by have e := congrArg List.length hf; simpa using e
  induction d with
  | zero =>
    intro i b acc hd hi ha hb hl
    refine Ev.step (f := fun _ => some (acc.map toS, ((b.length : Int) == 0))) (fun k => ?_) ?_
    · rw [lienref22_taken.l0, if_neg (by omega)]
    · rw [List.drop_of_length_le (by omega), rdQ]
      exact Ev.now _
  | succ d ih =>
    intro i b acc hd hi ha hb hl
    have hlt : i < tys.length := by omega
    rw [List.drop_eq_getElem_cons hlt]
    have hrd := rd_like hf i hlt
    obtain ⟨t, hte⟩ : ∃ t, tys[i] = t := ⟨_, rfl⟩
    rw [hte] at hrd ⊢
    have hw : wrap64 ((i : Int) + 1) = ((i + 1 : Nat) : Int) := by unfold wrap64; omega
    have hal : (acc.map toS).length < 4398046511104 := by rw [List.length_map]; omega
    cases t with
    | false =>
      refine Ev.step (f := fun k => (lienref02_TakeNum.f k b).bind fun bt252 => (if bt252.2.2 = true then (if bt252.1 > 9223372036854775807 then (some (([] : List (S62)), false)) else (lienref22_taken.l0 k bt252.2.1 fs (acc.map toS ++ [(⟨false, wrap64 bt252.1, ⟨#[]⟩⟩ : S62)]) ((i + 1 : Nat) : Int))) else (some (([] : List (S62)), false)))) (fun k => ?_) ?_
      · rw [lienref22_taken.l0, if_pos (by omega), if_pos (by omega), if_neg (by rw [hrd]; decide)]
        simp only [lienref22_num.f, Option.bind_some, if_pos hal, hw]
      · refine Ev.bind (ref_TakeNum_ev b hb hl) ?_
        rw [decRes00, rdQ]
        cases hdc : dec 0 b with
        | none => exact Ev.now _
        | some p =>
          obtain ⟨n, r⟩ := p
          obtain ⟨hr, hrm⟩ := dec_suf b 0 n r hdc
          simp only [if_true]
          by_cases hn : (n : Int) ≤ 9223372036854775807
          · simp only [if_pos hn, if_neg (show ¬ ((n : Int) > 9223372036854775807) by omega)]
            rw [wrap64_id (by omega) hn]
            have := ih (i + 1) r (acc ++ [.inl (n : Int)]) (by omega) (by omega) (by simp; omega) (fun x hx => hb x (hrm x hx)) (by omega)
            simpa [toS] using this
          · simp only [if_neg hn, if_pos (show ((n : Int) > 9223372036854775807) by omega)]
            exact Ev.now _
    | true =>
      refine Ev.step (f := fun k => (lienref02_TakeText.f k b 4096).bind fun bt241 => (if bt241.2.2 = true then (lienref22_taken.l0 k bt241.2.1 fs (acc.map toS ++ [(⟨true, 0, bt241.1⟩ : S62)]) ((i + 1 : Nat) : Int)) else (some (([] : List (S62)), false)))) (fun k => ?_) ?_
      · rw [lienref22_taken.l0, if_pos (by omega), if_pos (by omega), if_pos hrd]
        simp only [lienref22_text.f, Option.bind_some, if_pos hal, hw]
      · refine Ev.bind (ref_TakeText_ev b 4096 hb hl (by omega) (by omega)) ?_
        rw [rdQ]
        cases hdc : dec 0 b with
        | none => exact Ev.now _
        | some p =>
          obtain ⟨n, r⟩ := p
          obtain ⟨hr, hrm⟩ := dec_suf b 0 n r hdc
          by_cases hn : (n : Int) ≤ 4096 ∧ n ≤ r.length
          · rw [ttOf_some hn]
            simp only [if_true, if_pos hn]
            have := ih (i + 1) (r.drop n) (acc ++ [.inr (strOfNums (r.take n))]) (by omega) (by omega) (by simp; omega) (fun x hx => hb x (hrm x (List.mem_of_mem_drop hx))) (by rw [List.length_drop]; omega)
            simpa [toS] using this
          · rw [ttOf_none hn]
            simp only [if_neg hn]
            exact Ev.now _
theorem taken_ev (tys : List Bool) (fs : List S62) (hf : likeS tys fs) (h8 : tys.length ≤ 8) (b : List Int) (hb : Byt b) (hl : b.length ≤ 140737488351232) : Ev (fun k => lienref22_taken.f k b fs) (refT (rdQ tys b [])) :=
  taken_l0_ev tys fs hf h8 tys.length 0 b [] (by omega) (by omega) (by simp) hb hl

theorem msgOffs_pos {k : Int} {os : List Nat} (h : msgOffs k = some os) : 1 ≤ k ∧ k ≤ 2 := by
  unfold msgOffs at h
  split at h
  · omega
  · split at h
    · omega
    · cases h
theorem msgOffs_big {n : Int} (h : ¬ n ≤ 1000) : msgOffs n = none := by
  unfold msgOffs
  rw [if_neg (by omega), if_neg (by omega)]
def msgBad : Int × Int × Int × ByteArray × Int × Int := (0, 0, 0, ⟨#[]⟩, 0, 220)
def msgGood (n : Int) (os : List Nat) (vs : List (Int ⊕ ByteArray)) : Int × Int × Int × ByteArray × Int × Int := (n, getN os vs 1, getN os vs 2, getS os vs 3, getN os vs 4, 0)
def msgH (k : Nat) (n : Int) (r : List Int) : Option (Int × Int × Int × ByteArray × Int × Int) :=
  match msgOffs n with
  | none => some msgBad
  | some os => (wireRd k (os.map (· == 3)) r []).bind fun x => match x with
    | none => some msgBad
    | some vs => some (msgGood n os vs)
def msgG (k : Nat) (r : Int × List Int × Bool) : Option (Int × Int × Int × ByteArray × Int × Int) := if r.2.2 = true ∧ r.1 ≤ 1000 then msgH k (wrap64 r.1) r.2.1 else some msgBad
theorem msg_isG (k : Nat) (b : List Int) : wire_ReadMsg.f k b = (code_TakeNum.f k b).bind (msgG k) := rfl
theorem msgG_ok (k : Nat) (n m : Int) (r : List Int) (h : n ≤ 1000) (hw : wrap64 n = m) : msgG k (n, r, true) = msgH k m r := by
  subst hw
  exact if_pos ⟨rfl, h⟩
theorem msgG_big (k : Nat) (n : Int) (r : List Int) (h : ¬ n ≤ 1000) : msgG k (n, r, true) = some msgBad := if_neg (fun q => h q.2)
theorem msgG_no (k : Nat) (n : Int) (r : List Int) : msgG k (n, r, false) = some msgBad := if_neg (fun q => Bool.noConfusion q.1)
def msgR2 (n : Int) (r : List Int) : Int × Int × Int × ByteArray × Int × Int :=
  match msgOffs n with
  | none => msgBad
  | some os => match rdEnd (rdQ (os.map (· == 3)) r []) with
    | none => msgBad
    | some vs => msgGood n os vs
theorem msgH_ev (n : Int) (r : List Int) (hb : Byt r) (hl : r.length ≤ 140737488351232) : Ev (fun k => msgH k n r) (msgR2 n r) := by
  unfold msgR2 msgH
  cases msgOffs n with
  | none => exact Ev.now _
  | some os =>
    dsimp only
    refine Ev.bind (wireRd_ev (os.map (· == 3)) r [] hb hl) ?_
    cases rdEnd (rdQ (os.map (· == 3)) r []) with
    | none => exact Ev.now _
    | some vs => exact Ev.now _
def msgR (b : List Int) : Int × Int × Int × ByteArray × Int × Int :=
  match dec 0 b with
  | none => msgBad
  | some (n, r) => msgR2 (n : Int) r
theorem msgR_some {b r : List Int} {n : Nat} (h : dec 0 b = some (n, r)) : msgR b = msgR2 (n : Int) r := by
  unfold msgR
  rw [h]
theorem msgR_none {b : List Int} (h : dec 0 b = none) : msgR b = msgBad := by
  unfold msgR
  rw [h]
theorem msgR2_bad {n : Int} {r : List Int} (h : msgOffs n = none) : msgR2 n r = msgBad := by
  unfold msgR2
  rw [h]
theorem msgR_ev (b : List Int) (hb : Byt b) (hl : b.length ≤ 140737488351232) : Ev (fun k => wire_ReadMsg.f k b) (msgR b) := by
  refine Ev.congr (msg_isG · b) ?_
  have E := code_TakeNum_ev b hb hl
  cases hd : dec 0 b with
  | none =>
    rw [decR_none hd] at E
    rw [msgR_none hd]
    exact Ev.bind E (Ev.congr (fun k => msgG_no k _ _) (Ev.now _))
  | some p =>
    obtain ⟨n, r⟩ := p
    obtain ⟨hr, hrm⟩ := dec_suf b 0 n r hd
    rw [decR_some hd] at E
    rw [msgR_some hd]
    have hrl : r.length ≤ 140737488351232 := Nat.le_trans hr hl
    have hrb : Byt r := fun x hx => hb x (hrm x hx)
    clear hd hr hrm hb hl
    obtain ⟨m, hm⟩ : ∃ m : Int, (n : Int) = m := ⟨_, rfl⟩
    have h0 : 0 ≤ m := by omega
    rw [hm] at E ⊢
    clear hm
    refine Ev.bind E ?_
    by_cases hn : m ≤ 1000
    · exact Ev.congr (fun k => msgG_ok k m m r hn (wrap64_id (by omega) (by omega))) (msgH_ev m r hrb hrl)
    · rw [msgR2_bad (msgOffs_big hn)]
      exact Ev.congr (fun k => msgG_big k m r hn) (Ev.now _)

def msgB (a0 a1 a2 : Int) (a3 : ByteArray) (a4 : Int) : List Int × Int :=
  match msgOffs a0 with
  | none => ([], 220)
  | some os => if msgPlain os a1 a2 a3 a4 = true then outB (wrP (msgFlds os a0 a1 a2 a3 a4) (numEnc a0.toNat)) else ([], 220)
theorem msgFlds_b {os : List Nat} {a0 a1 a2 : Int} {a3 : ByteArray} {a4 : Int} (h0 : a0 ≤ 9223372036854775807) (h1 : a1 ≤ 9223372036854775807) (h2 : a2 ≤ 9223372036854775807) (h3 : a3.size ≤ 140737488351232) (h4 : a4 ≤ 9223372036854775807) (ho : msgOffs a0 = some os) :
    (∀ f ∈ msgFlds os a0 a1 a2 a3 a4, FldB f) ∧ (msgFlds os a0 a1 a2 a3 a4).length ≤ 8 := by
  rcases msgOffs_cases ho with rfl | rfl
  · refine ⟨?_, by simp [msgFlds]⟩
    intro f hf
    have e : msgFlds [1, 2, 3, 4] a0 a1 a2 a3 a4 = [.inl a1, .inl a2, .inr a3, .inl a4] := rfl
    rw [e] at hf
    simp at hf
    rcases hf with rfl | rfl | rfl | rfl <;> assumption
  · refine ⟨?_, by simp [msgFlds]⟩
    intro f hf
    have e : msgFlds [1, 2] a0 a1 a2 a3 a4 = [.inl a1, .inl a2] := rfl
    rw [e] at hf
    simp at hf
    rcases hf with rfl | rfl <;> assumption
theorem msgB_ev (a0 a1 a2 : Int) (a3 : ByteArray) (a4 : Int) (h1 : a1 ≤ 9223372036854775807) (h2 : a2 ≤ 9223372036854775807) (h3 : a3.size ≤ 140737488351232) (h4 : a4 ≤ 9223372036854775807) : Ev (fun k => wire_MsgBytes.f k a0 a1 a2 a3 a4) (msgB a0 a1 a2 a3 a4) := by
  unfold wire_MsgBytes.f msgB
  cases ho : msgOffs a0 with
  | none => exact Ev.now _
  | some os =>
    have hk := msgOffs_pos ho
    simp only
    by_cases hp : msgPlain os a1 a2 a3 a4 = true
    · simp only [if_pos hp]
      rw [show IntKind.u64.wrap a0 = a0 by rw [wu64]; omega]
      refine Ev.bind (code_Num_ev a0 (by omega) (by omega)) ?_
      obtain ⟨b1, b2⟩ := msgFlds_b (a0 := a0) (a1 := a1) (a2 := a2) (a3 := a3) (a4 := a4) (by omega) h1 h2 h3 h4 ho
      have h10 := len10 (n := a0.toNat) (by omega)
      exact Ev.bind (wireWr_ev _ _ b1 (by omega)) (Ev.now _)
    · simp only [if_neg hp]
      exact Ev.now _

theorem msgB_ref (a0 a1 a2 : Int) (a3 : ByteArray) (a4 : Int) (h1 : a1 ≤ 9223372036854775807) (h2 : a2 ≤ 9223372036854775807) (h3 : a3.size ≤ 140737488351232) (h4 : a4 ≤ 9223372036854775807) : Ev (fun k => lienref22_MsgBytes.f k a0 a1 a2 a3 a4) (msgB a0 a1 a2 a3 a4) := by
  unfold lienref22_MsgBytes.f msgB
  by_cases c1 : a0 = 1
  · subst c1
    simp only [if_true]
    have hp : msgPlain [1, 2, 3, 4] a1 a2 a3 a4 = true := by simp [msgPlain, pickN, pickS]
    have ho : msgOffs 1 = some [1, 2, 3, 4] := rfl
    obtain ⟨b1, b2⟩ := msgFlds_b (a0 := 1) (a1 := a1) (a2 := a2) (a3 := a3) (a4 := a4) (by omega) h1 h2 h3 h4 ho
    rw [ho]
    simp only [hp, if_true, lienref22_num.f, lienref22_text.f, Option.bind_some]
    have e := row_ev 1 (by decide) (by decide) _ b1 b2
    refine Ev.bind e ?_
    cases wrP (msgFlds [1, 2, 3, 4] 1 a1 a2 a3 a4) (numEnc (1 : Int).toNat) with
    | none => exact Ev.now _
    | some r => exact Ev.now _
  · simp only [if_neg c1]
    by_cases c2 : a0 = 2
    · subst c2
      simp only [if_true, lienref22_num.f, Option.bind_some]
      have ho : msgOffs 2 = some [1, 2] := rfl
      obtain ⟨b1, b2⟩ := msgFlds_b (a0 := 2) (a1 := a1) (a2 := a2) (a3 := a3) (a4 := a4) (by omega) h1 h2 h3 h4 ho
      rw [ho]
      simp only
      have hpl : msgPlain [1, 2] a1 a2 a3 a4 = (decide (a3.toList = ([] : List UInt8)) && (a4 == 0)) := by
        have e1 : ((⟨#[]⟩ : ByteArray).toList == a3.toList) = decide (a3.toList = ([] : List UInt8)) := by
          rw [show (⟨#[]⟩ : ByteArray).toList = [] by rw [bl_eq]]
          rw [Bool.eq_iff_iff]
          simp only [beq_iff_eq, decide_eq_true_eq]
          exact eq_comm
        have e2 : ((0 : Int) == a4) = (a4 == 0) := by
          rw [Bool.eq_iff_iff]
          simp only [beq_iff_eq]
          exact eq_comm
        have e3 : a3.toList.isEmpty = decide (a3.toList = ([] : List UInt8)) := by
          rw [Bool.eq_iff_iff]
          simp
        unfold msgPlain pickN pickS
        rw [if_pos (by decide), if_pos (by decide), if_neg (by decide), if_neg (by decide), e1, e2]
        simp
      by_cases c3 : a3.toList = ([] : List UInt8)
      · simp only [if_pos c3]
        by_cases c4 : a4 = 0
        · rw [hpl, if_pos (by simp [c3, c4])]
          refine Ev.step (f := fun k => (lienref22_row.f k 2 ([⟨false, a1, ⟨#[]⟩⟩, ⟨false, a2, ⟨#[]⟩⟩])).bind fun bt => if bt.2 = true then some (bt.1, 0) else some ([], 220)) (fun k => ?_) ?_
          · rw [lienref22_MsgBytes.j0, if_neg (by simp [c4])]
          · have e := row_ev 2 (by decide) (by decide) _ b1 b2
            refine Ev.bind e ?_
            cases wrP (msgFlds [1, 2] 2 a1 a2 a3 a4) (numEnc (2 : Int).toNat) with
            | none => exact Ev.now _
            | some r => exact Ev.now _
        · rw [hpl, if_neg (by simp [c4])]
          refine Ev.step (f := fun _ => some ([], 220)) (fun k => ?_) (Ev.now _)
          rw [lienref22_MsgBytes.j0, if_pos (by simp [c4])]
      · simp only [if_neg c3]
        rw [hpl, if_neg (by simp [c3])]
        refine Ev.step (f := fun _ => some ([], 220)) (fun k => ?_) (Ev.now _)
        rw [lienref22_MsgBytes.j0, if_pos rfl]
    · simp only [if_neg c2]
      have : msgOffs a0 = none := by
        unfold msgOffs
        rw [if_neg c1, if_neg c2]
      rw [this]
      exact Ev.now _

theorem rdQ_kinds : ∀ (ts : List Bool) (b : List Int) (acc vs : List (Int ⊕ ByteArray)) (r : List Int), rdQ ts b acc = some (vs, r) → ∃ us, vs = acc ++ us ∧ us.map isTx = ts
  | [], b, acc, vs, r, h => by
    simp only [rdQ, Option.some.injEq, Prod.mk.injEq] at h
    exact ⟨[], by simp [h.1], rfl⟩
  | false :: ts, b, acc, vs, r, h => by
    rw [rdQ] at h
    cases hd : dec 0 b with
    | none => rw [hd] at h; simp at h
    | some p =>
      obtain ⟨n, q⟩ := p
      rw [hd] at h
      simp only at h
      split at h
      · obtain ⟨us, rfl, hu⟩ := rdQ_kinds ts _ _ _ _ h
        exact ⟨.inl (n : Int) :: us, by simp, by simp [hu, isTx]⟩
      · cases h
  | true :: ts, b, acc, vs, r, h => by
    rw [rdQ] at h
    cases hd : dec 0 b with
    | none => rw [hd] at h; simp at h
    | some p =>
      obtain ⟨n, q⟩ := p
      rw [hd] at h
      simp only at h
      split at h
      · obtain ⟨us, rfl, hu⟩ := rdQ_kinds ts _ _ _ _ h
        exact ⟨.inr (strOfNums (q.take n)) :: us, by simp, by simp [hu, isTx]⟩
      · cases h

theorem msgOffs_kind {m : Int} {os : List Nat} (h : msgOffs m = some os) : m = 1 ∧ os = [1, 2, 3, 4] ∨ m = 2 ∧ os = [1, 2] := by
  unfold msgOffs at h
  split at h
  · exact .inl ⟨by assumption, (Option.some.inj h).symm⟩
  · split at h
    · exact .inr ⟨by assumption, (Option.some.inj h).symm⟩
    · cases h
theorem msgR2_of {m : Int} {os : List Nat} {r : List Int} (ho : msgOffs m = some os) : msgR2 m r = match rdEnd (rdQ (os.map (· == 3)) r []) with | none => msgBad | some vs => msgGood m os vs := by
  unfold msgR2
  rw [ho]
theorem w1_ : wrap64 1 = 1 := wrap64_id (by decide) (by decide)
theorem w2_ : wrap64 2 = 2 := wrap64_id (by decide) (by decide)
theorem good1 (x0 x1 : Int) (x2 : ByteArray) (x3 : Int) : (some (wrap64 1, x0, x1, x2, x3, 0) : Option (Int × Int × Int × ByteArray × Int × Int)) = some (msgGood 1 [1, 2, 3, 4] [.inl x0, .inl x1, .inr x2, .inl x3]) := by rw [w1_]; rfl
theorem good2 (x0 x1 : Int) : (some (wrap64 2, x0, x1, ⟨#[]⟩, 0, 0) : Option (Int × Int × Int × ByteArray × Int × Int)) = some (msgGood 2 [1, 2] [.inl x0, .inl x1]) := by rw [w2_]; rfl
theorem msgT1 (r : List Int) (hb : Byt r) (hl : r.length ≤ 140737488351232) : Ev (fun k => lienref22_ReadMsg.j1 k 1 r [⟨false, 0, ⟨#[]⟩⟩, ⟨false, 0, ⟨#[]⟩⟩, ⟨true, 0, ⟨#[]⟩⟩, ⟨false, 0, ⟨#[]⟩⟩]) (msgR2 1 r) := by
  refine Ev.step (fun k => by rw [lienref22_ReadMsg.j1]) ?_
  have ho : msgOffs 1 = some [1, 2, 3, 4] := rfl
  rw [msgR2_of ho]
  have hty : ([1, 2, 3, 4].map (· == 3) : List Bool) = [false, false, true, false] := rfl
  rw [hty]
  have hlk : likeS [false, false, true, false] [⟨false, 0, ⟨#[]⟩⟩, ⟨false, 0, ⟨#[]⟩⟩, ⟨true, 0, ⟨#[]⟩⟩, ⟨false, 0, ⟨#[]⟩⟩] := rfl
  refine Ev.bind (taken_ev [false, false, true, false] _ hlk (by simp) r hb hl) ?_
  cases hq : rdQ [false, false, true, false] r [] with
  | none => exact Ev.congr (f := fun _ => some msgBad) (fun _ => if_neg (by decide)) (Ev.now _)
  | some p =>
    obtain ⟨vs, q⟩ := p
    obtain ⟨us, e1, e2⟩ := rdQ_kinds _ _ _ _ _ hq
    rw [List.nil_append] at e1
    subst e1
    obtain ⟨v0, v1, v2, v3, rfl⟩ := len4 (by simpa using congrArg List.length e2)
    simp at e2
    obtain ⟨h0, h1, h2, h3⟩ := e2
    obtain ⟨x0, rfl⟩ : ∃ n, v0 = .inl n := by have q := kinds_cons h0; rw [if_neg (by decide)] at q; exact q
    obtain ⟨x1, rfl⟩ : ∃ n, v1 = .inl n := by have q := kinds_cons h1; rw [if_neg (by decide)] at q; exact q
    obtain ⟨x2, rfl⟩ : ∃ s, v2 = .inr s := by have q := kinds_cons h2; rw [if_pos rfl] at q; exact q
    obtain ⟨x3, rfl⟩ : ∃ n, v3 = .inl n := by have q := kinds_cons h3; rw [if_neg (by decide)] at q; exact q
    simp only [rdEnd]
    by_cases hz : q.length = 0
    · have hz1 : ((q.length : Int) == 0) = true := by rw [hz]; rfl
      rw [if_pos hz]
      exact Ev.congr (f := fun _ => some (msgGood 1 [1, 2, 3, 4] [.inl x0, .inl x1, .inr x2, .inl x3])) (fun _ => (if_pos hz1).trans ((if_pos (show (0 : Int) < ((4 : Nat) : Int) by decide)).trans ((if_pos (show (1 : Int) < ((4 : Nat) : Int) by decide)).trans ((if_pos (by first | rfl | trivial)).trans ((if_pos (show (2 : Int) < ((4 : Nat) : Int) by decide)).trans ((if_pos (show (3 : Int) < ((4 : Nat) : Int) by decide)).trans (good1 x0 x1 x2 x3))))))) (Ev.now _)
    · have hz1 : ¬ ((q.length : Int) == 0) = true := by simp; intro e; exact hz (by rw [e]; rfl)
      rw [if_neg hz]
      exact Ev.congr (f := fun _ => some msgBad) (fun _ => if_neg hz1) (Ev.now _)
theorem msgT2 (r : List Int) (hb : Byt r) (hl : r.length ≤ 140737488351232) : Ev (fun k => lienref22_ReadMsg.j1 k 2 r [⟨false, 0, ⟨#[]⟩⟩, ⟨false, 0, ⟨#[]⟩⟩]) (msgR2 2 r) := by
  refine Ev.step (fun k => by rw [lienref22_ReadMsg.j1]) ?_
  have ho : msgOffs 2 = some [1, 2] := rfl
  rw [msgR2_of ho]
  have hty : ([1, 2].map (· == 3) : List Bool) = [false, false] := rfl
  rw [hty]
  have hlk : likeS [false, false] [⟨false, 0, ⟨#[]⟩⟩, ⟨false, 0, ⟨#[]⟩⟩] := rfl
  refine Ev.bind (taken_ev [false, false] _ hlk (by simp) r hb hl) ?_
  cases hq : rdQ [false, false] r [] with
  | none => exact Ev.congr (f := fun _ => some msgBad) (fun _ => if_neg (by decide)) (Ev.now _)
  | some p =>
    obtain ⟨vs, q⟩ := p
    obtain ⟨us, e1, e2⟩ := rdQ_kinds _ _ _ _ _ hq
    rw [List.nil_append] at e1
    subst e1
    obtain ⟨v0, v1, rfl⟩ := len2 (by simpa using congrArg List.length e2)
    simp at e2
    obtain ⟨h0, h1⟩ := e2
    obtain ⟨x0, rfl⟩ : ∃ n, v0 = .inl n := by have q := kinds_cons h0; rw [if_neg (by decide)] at q; exact q
    obtain ⟨x1, rfl⟩ : ∃ n, v1 = .inl n := by have q := kinds_cons h1; rw [if_neg (by decide)] at q; exact q
    simp only [rdEnd]
    by_cases hz : q.length = 0
    · have hz1 : ((q.length : Int) == 0) = true := by rw [hz]; rfl
      rw [if_pos hz]
      exact Ev.congr (f := fun _ => some (msgGood 2 [1, 2] [.inl x0, .inl x1])) (fun _ => (if_pos hz1).trans ((if_pos (show (0 : Int) < ((2 : Nat) : Int) by decide)).trans ((if_pos (show (1 : Int) < ((2 : Nat) : Int) by decide)).trans ((if_neg (by decide)).trans (good2 x0 x1))))) (Ev.now _)
    · have hz1 : ¬ ((q.length : Int) == 0) = true := by simp; intro e; exact hz (by rw [e]; rfl)
      rw [if_neg hz]
      exact Ev.congr (f := fun _ => some msgBad) (fun _ => if_neg hz1) (Ev.now _)
theorem msg_j0_bad (m : Int) (r : List Int) : Ev (fun k => lienref22_ReadMsg.j0 k m r true) msgBad := by
  refine Ev.step (f := fun _ => some msgBad) (fun k => ?_) (Ev.now _)
  rw [lienref22_ReadMsg.j0, if_pos rfl]
  rfl
theorem msgR_ref (b : List Int) (hb : Byt b) (hl : b.length ≤ 140737488351232) : Ev (fun k => lienref22_ReadMsg.f k b) (msgR b) := by
  unfold lienref22_ReadMsg.f
  have E := ref_TakeNum_ev b hb hl
  cases hd : dec 0 b with
  | none =>
    rw [decR_none hd] at E
    rw [msgR_none hd]
    refine Ev.bind E ?_
    exact Ev.congr (f := fun k => lienref22_ReadMsg.j0 k 0 [] true) (fun k => if_neg (by decide)) (msg_j0_bad _ _)
  | some p =>
    obtain ⟨n, r⟩ := p
    obtain ⟨hr, hrm⟩ := dec_suf b 0 n r hd
    rw [decR_some hd] at E
    rw [msgR_some hd]
    have hrl : r.length ≤ 140737488351232 := Nat.le_trans hr hl
    have hrb : Byt r := fun x hx => hb x (hrm x hx)
    clear hd hr hrm hb hl
    obtain ⟨m, hm⟩ : ∃ m : Int, (n : Int) = m := ⟨_, rfl⟩
    rw [hm] at E ⊢
    clear hm
    refine Ev.bind E ?_
    refine Ev.congr (f := fun k => if m = 1 then lienref22_ReadMsg.j0 k m r false else lienref22_ReadMsg.j0 k m r (m != 2)) (fun k => if_pos rfl) ?_
    by_cases c1 : m = 1
    · subst c1
      refine Ev.congr (fun k => if_pos rfl) ?_
      refine Ev.step (f := fun k => lienref22_ReadMsg.j1 k 1 r [⟨false, 0, ⟨#[]⟩⟩, ⟨false, 0, ⟨#[]⟩⟩, ⟨true, 0, ⟨#[]⟩⟩, ⟨false, 0, ⟨#[]⟩⟩]) (fun k => ?_) (msgT1 r hrb hrl)
      rw [lienref22_ReadMsg.j0, if_neg (by decide), if_pos rfl]
      rfl
    · refine Ev.congr (fun k => if_neg c1) ?_
      by_cases c2 : m = 2
      · subst c2
        refine Ev.step (f := fun k => lienref22_ReadMsg.j1 k 2 r [⟨false, 0, ⟨#[]⟩⟩, ⟨false, 0, ⟨#[]⟩⟩]) (fun k => ?_) (msgT2 r hrb hrl)
        rw [lienref22_ReadMsg.j0, if_neg (by decide), if_neg (by decide)]
      · have hm2 : (m != 2) = true := bne_iff_ne.mpr c2
        have hno : msgOffs m = none := by
          unfold msgOffs
          rw [if_neg c1, if_neg c2]
        rw [hm2, msgR2_bad hno]
        exact msg_j0_bad m r

theorem reqOffs_pos {k : Int} {os : List Nat} (h : reqOffs k = some os) : 1 ≤ k ∧ k ≤ 12 := by
  unfold reqOffs at h
  repeat' split at h
  all_goals first | omega | cases h
theorem reqOffs_big {n : Int} (h : ¬ n ≤ 12) : reqOffs n = none := by
  cases e : reqOffs n with
  | none => rfl
  | some os => have := reqOffs_pos e; omega

def reqB (a0 : Int) (a1 : ByteArray) (a2 a3 a4 a5 a6 : Int) : List Int × Int :=
  match reqOffs a0 with
  | none => ([], 220)
  | some os => if reqPlain os a1 a2 a3 a4 a5 a6 = true then outB (wrP (reqFlds os a0 a1 a2 a3 a4 a5 a6) (numEnc a0.toNat)) else ([], 220)
def reqE (os : List Nat) (a1 : ByteArray) (a2 a3 a4 a5 a6 : Int) : List (Int ⊕ ByteArray) := os.map fun o => if o = 1 then .inr a1 else .inl (if o = 2 then a2 else if o = 3 then a3 else if o = 4 then a4 else if o = 5 then a5 else a6)
theorem reqFlds_E {os : List Nat} {a0 : Int} {a1 : ByteArray} {a2 a3 a4 a5 a6 : Int} (ho : reqOffs a0 = some os) : reqFlds os a0 a1 a2 a3 a4 a5 a6 = reqE os a1 a2 a3 a4 a5 a6 := by
  rcases reqOffs_cases ho with rfl | rfl | rfl | rfl | rfl | rfl | rfl | rfl <;> rfl
theorem reqFlds_b {os : List Nat} {a0 : Int} {a1 : ByteArray} {a2 a3 a4 a5 a6 : Int} (h1 : a1.size ≤ 140737488351232) (h2 : a2 ≤ 9223372036854775807) (h3 : a3 ≤ 9223372036854775807) (h4 : a4 ≤ 9223372036854775807) (h5 : a5 ≤ 9223372036854775807) (h6 : a6 ≤ 9223372036854775807) (ho : reqOffs a0 = some os) :
    (∀ f ∈ reqFlds os a0 a1 a2 a3 a4 a5 a6, FldB f) ∧ (reqFlds os a0 a1 a2 a3 a4 a5 a6).length ≤ 8 := by
  rw [reqFlds_E ho]
  refine ⟨?_, by rcases reqOffs_cases ho with rfl | rfl | rfl | rfl | rfl | rfl | rfl | rfl <;> simp [reqE]⟩
  intro f hf
  unfold reqE at hf
  obtain ⟨o, _, rfl⟩ := List.mem_map.mp hf
  split
  · exact h1
  · show (if o = 2 then a2 else if o = 3 then a3 else if o = 4 then a4 else if o = 5 then a5 else a6) ≤ 9223372036854775807
    split
    · exact h2
    · split
      · exact h3
      · split
        · exact h4
        · split
          · exact h5
          · exact h6
theorem reqB_ev (a0 : Int) (a1 : ByteArray) (a2 a3 a4 a5 a6 : Int) (h1 : a1.size ≤ 140737488351232) (h2 : a2 ≤ 9223372036854775807) (h3 : a3 ≤ 9223372036854775807) (h4 : a4 ≤ 9223372036854775807) (h5 : a5 ≤ 9223372036854775807) (h6 : a6 ≤ 9223372036854775807) : Ev (fun k => wire_Bytes.f k a0 a1 a2 a3 a4 a5 a6) (reqB a0 a1 a2 a3 a4 a5 a6) := by
  unfold wire_Bytes.f reqB
  cases ho : reqOffs a0 with
  | none => exact Ev.now _
  | some os =>
    have hk := reqOffs_pos ho
    simp only
    by_cases hp : reqPlain os a1 a2 a3 a4 a5 a6 = true
    · simp only [if_pos hp]
      rw [show IntKind.u64.wrap a0 = a0 by rw [wu64]; omega]
      refine Ev.bind (code_Num_ev a0 (by omega) (by omega)) ?_
      obtain ⟨b1, b2⟩ := reqFlds_b (a0 := a0) h1 h2 h3 h4 h5 h6 ho
      have h10 := len10 (n := a0.toNat) (by omega)
      exact Ev.bind (wireWr_ev _ _ b1 (by omega)) (Ev.now _)
    · simp only [if_neg hp]
      exact Ev.now _

theorem numEnc_300 : numEnc 300 = [172, 2] := by
  rw [numEnc_ge (by decide), numEnc_lt (by decide)]
  rfl
theorem bytesOf_a : bytesOf (⟨#[97]⟩ : ByteArray) = [97] := by
  rw [bl_bytesOf, bl_eq]
  rfl
theorem awake_B : reqB 2 (⟨#[97]⟩ : ByteArray) 0 300 0 0 0 = ([2, 1, 97, 172, 2], 0) := by
  have ho : reqOffs 2 = some [1, 3] := rfl
  have hp : reqPlain [1, 3] (⟨#[97]⟩ : ByteArray) 0 300 0 0 0 = true := by
    unfold reqPlain pickN pickS
    simp
  unfold reqB
  rw [ho]
  simp only [hp, if_true]
  have e : reqFlds [1, 3] 2 (⟨#[97]⟩ : ByteArray) 0 300 0 0 0 = [.inr ⟨#[97]⟩, .inl 300] := rfl
  rw [e]
  have e2 : wrP [.inr ⟨#[97]⟩, .inl 300] (numEnc (2 : Int).toNat) = some [2, 1, 97, 172, 2] := by
    unfold wrP
    rw [if_pos (by decide)]
    simp only [List.flatMap_cons, List.flatMap_nil, fldEnc]
    rw [show (⟨#[97]⟩ : ByteArray).size = 1 from rfl, show (300 : Int).toNat = 300 from rfl, show (2 : Int).toNat = 2 from rfl, numEnc_300, numEnc_lt (n := 1) (by decide), numEnc_lt (n := 2) (by decide), bytesOf_a]
    rfl
  rw [e2]
  rfl
theorem awake_R : msgR [2, 3, 5] = (2, 3, 5, ⟨#[]⟩, 0, 0) := by
  have h : dec 0 [2, 3, 5] = some (2, [3, 5]) := by decide
  rw [msgR_some h]
  rfl
theorem awake22 : Ev (fun k => lienlaw22_awake.f k) true := by
  unfold lienlaw22_awake.f
  refine Ev.bind (reqB_ev 2 (⟨#[97]⟩ : ByteArray) 0 300 0 0 0 (by decide) (by decide) (by decide) (by decide) (by decide) (by decide)) ?_
  refine Ev.bind (msgR_ev [2, 3, 5] (by intro x hx; simp at hx; omega) (by simp)) ?_
  rw [awake_B, awake_R]
  have h : (strOfNums [2, 1, 97, 172, 2]).toList = ([2, 1, 97, 172, 2] : List UInt8) := by rw [bl_nums]; rfl
  refine Ev.congr (f := fun _ => some true) (fun _ => ?_) (Ev.now _)
  rw [if_pos rfl, if_pos h, if_pos rfl, bl_eq]
  rfl

theorem cut22 (l : List Int) : ∃ t, lienlaw22_cut.f l = some t ∧ t.length ≤ 5000 ∧ (∀ x ∈ t, x ∈ l) := by
  unfold lienlaw22_cut.f
  split
  · rw [if_pos (by omega)]
    exact ⟨_, rfl, by rw [List.length_take]; omega, fun x hx => List.mem_of_mem_take hx⟩
  · exact ⟨l, rfl, by omega, fun x hx => hx⟩

theorem short22 (s : ByteArray) : ∃ u, lienlaw22_short.f s = some u ∧ u.size ≤ 5000 := by
  unfold lienlaw22_short.f
  split
  · rw [if_pos (by omega), if_pos (by omega)]
    exact ⟨_, rfl, by rw [ByteArray.size_extract]; omega⟩
  · exact ⟨s, rfl, by omega⟩

theorem WireMsgs : lienlaw22_WireMsgs.Pure := by
  intro a0 a1 a2 a3 a4 l h0 h1 h2 h3 h4 hl
  obtain ⟨t, ht, htl, htm⟩ := cut22 l
  obtain ⟨u, hu, hul⟩ := short22 a3
  have hbt : Byt t := fun x hx => Byt.of_wf hl.2.2 x (htm x hx)
  have g1 := (wf_i64 h1).2
  have g2 := (wf_i64 h2).2
  have g4 := (wf_i64 h4).2
  have hus : u.size ≤ 140737488351232 := by omega
  refine Ev.rounds ?_
  unfold lienlaw22_WireMsgs.f
  refine Ev.bind (g := fun _ => lienlaw22_short.f a3) (a := u) (hu ▸ Ev.now u) ?_
  refine Ev.bind (g := fun _ => lienlaw22_cut.f l) (a := t) (ht ▸ Ev.now t) ?_
  refine Ev.bind (msgB_ev a0 a1 a2 u a4 g1 g2 hus g4) ?_
  refine Ev.bind (msgB_ref a0 a1 a2 u a4 g1 g2 hus g4) ?_
  refine Ev.bind (msgR_ev t hbt (by omega)) ?_
  refine Ev.bind (msgR_ref t hbt (by omega)) ?_
  generalize msgB a0 a1 a2 u a4 = X
  generalize msgR t = Y
  refine Ev.congr (f := fun k => (lienlaw22_awake.f k).bind fun t415 => some t415) (fun k => ?_) (Ev.bind awake22 (Ev.now true))
  rw [if_pos rfl, if_pos rfl, if_pos (by simp), if_pos rfl]

end Go.Proofs.Ytklnnmgfoebbhaa.Pure
