/- Written for the statement RightsBytes over the program's printed functions: numbers and lists alone. -/
import Derived.Test.YtaodgncldakhgaaPRightsBytesx
set_option linter.unusedVariables false
set_option linter.unusedSimpArgs false
namespace Go.Proofs.Ytaodgncldakhgaa.Pure
open Go.RowKit Go.Proofs.Ytaodgncldakhgaa.PRightsBytes Go.Proofs.YtaodgncldakhgaaW Go.Proofs.YtaodgncldakhgaaW.PrintWords Go.Proofs.YtaodgncldakhgaaW.PrintLast Go.Proofs.YtaodgncldakhgaaW.PrintMore
theorem wrap64_id {x : Int} (h0 : -9223372036854775808 ≤ x) (h1 : x ≤ 9223372036854775807) : wrap64 x = x := by unfold wrap64; omega
theorem wu64 (n : Int) : IntKind.u64.wrap n = n % 18446744073709551616 := by simp [IntKind.wrap, IntKind.bits, IntKind.signed]
theorem wraps_u64 (n : Int) (h0 : 0 ≤ n) (h1 : n < 2 ^ 64) : IntKind.u64.wrap n = n := by rw [wu64]; omega
theorem u64_and127 {x : Int} (h0 : 0 ≤ x) (h1 : x < 18446744073709551616) : Go.bits .and .u64 x 127 = x % 128 := Go.bits_mask .u64 64 (by decide) wraps_u64 7 (by decide) x h0 h1
theorem u8_and127 {x : Int} (h0 : 0 ≤ x) (h1 : x < 256) : Go.bits .and .u8 x 127 = x % 128 := Go.bits_mask .u8 8 (by decide) Go.wraps_u8 7 (by decide) x h0 h1
theorem bits_comm_or (k : IntKind) (x y : Int) : Go.bits .or k x y = Go.bits .or k y x := by simp [Go.bits, BitVec.or_comm]
theorem u8_or_128 {x : Int} (h0 : 0 ≤ x) (h1 : x < 128) : Go.bits .or .u8 x 128 = x + 128 := by
  rw [bits_comm_or, Go.bits_join .u8 8 (by decide) Go.wraps_u8 7 128 x (by decide) (by decide) (by decide) h0 h1 (by omega)]; omega
theorem u64_join (i : Nat) {x y : Int} (hx0 : 0 ≤ x) (hx : x % 2 ^ i = 0) (hx1 : x < 18446744073709551616) (hy0 : 0 ≤ y) (hy : y < 2 ^ i) (hy1 : y < 18446744073709551616) : Go.bits .or .u64 x y = x + y :=
  Go.bits_join .u64 64 (by decide) wraps_u64 i x y hx0 hx hx1 hy0 hy hy1
theorem wf_u8 {x : Int} (h : (Lit.int .u8 x).wf = true) : 0 ≤ x ∧ x < 256 := by
  simp [Lit.wf, IntKind.min, IntKind.max, IntKind.bits, IntKind.signed] at h; omega
def Byt (l : List Int) : Prop := ∀ x ∈ l, 0 ≤ x ∧ x < 256
theorem Byt.rd {l : List Int} (h : Byt l) (i : Int) : 0 ≤ rd l i ∧ rd l i < 256 := by
  unfold PrintWords.rd
  rw [List.getD_eq_getElem?_getD]
  cases e : l[i.toNat]? with
  | none => simp
  | some x => exact h x (List.mem_of_getElem? e)
theorem Byt.take {l : List Int} (h : Byt l) (n : Nat) : Byt (l.take n) := fun x hx => h x (List.mem_of_mem_take hx)
theorem Byt.drop {l : List Int} (h : Byt l) (n : Nat) : Byt (l.drop n) := fun x hx => h x (List.mem_of_mem_drop hx)
theorem rd_nat (l : List Int) (i : Nat) : rd l (i : Int) = l.getD i 0 := by unfold PrintWords.rd; simp
theorem rd_drop {l : List Int} {i : Nat} (h : i < l.length) : l.drop i = rd l (i : Int) :: l.drop (i + 1) := by
  rw [rd_nat, List.drop_eq_getElem_cons h]; simp [List.getD_eq_getElem?_getD, List.getElem?_eq_getElem h]
def numEnc (n : Nat) : List Int := if n < 128 then [(n : Int)] else ((n % 128 + 128 : Nat) : Int) :: numEnc (n / 128)
theorem numEnc_lt {n : Nat} (h : n < 128) : numEnc n = [(n : Int)] := by rw [numEnc, if_pos h]
theorem numEnc_ge {n : Nat} (h : ¬ n < 128) : numEnc n = ((n % 128 + 128 : Nat) : Int) :: numEnc (n / 128) := by rw [numEnc, if_neg h]
theorem numEnc_len (n : Nat) : ∀ d, n < 128 ^ (d + 1) → (numEnc n).length ≤ d + 1 := by
  induction n using Nat.strongRecOn with
  | _ n ih =>
    intro d hd
    by_cases h : n < 128
    · rw [numEnc_lt h]; simp
    · rw [numEnc_ge h]
      cases d with
      | zero => omega
      | succ d =>
        have := ih (n / 128) (by omega) d (by rw [Nat.pow_succ] at hd; exact Nat.div_lt_of_lt_mul (by omega))
        simp; omega
theorem numEnc_pos (n : Nat) : 0 < (numEnc n).length := by
  by_cases h : n < 128
  · rw [numEnc_lt h]; simp
  · rw [numEnc_ge h]; simp
theorem code_Num_l0 (n : Nat) : ∀ (k : Nat) (acc : List Int), n < 18446744073709551616 → (numEnc n).length ≤ k → acc.length + (numEnc n).length < 140737488355328 → code_Num.l0 k (n : Int) acc = some (acc ++ numEnc n) := by
  induction n using Nat.strongRecOn with
  | _ n ih =>
    intro k acc hn hk hl
    have hp := numEnc_pos n
    obtain ⟨k, rfl⟩ : ∃ m, k = m + 1 := ⟨k - 1, by omega⟩
    by_cases h : n < 128
    · rw [numEnc_lt h] at hl ⊢
      simp only [code_Num.l0]
      rw [if_neg (by omega), if_pos (by simp at hl; omega)]
      rw [show (n : Int) % 256 = n by omega]
    · rw [numEnc_ge h] at hl hk ⊢
      simp only [List.length_cons] at hl hk
      simp only [code_Num.l0]
      rw [if_pos (by omega), if_pos (by omega)]
      rw [u64_and127 (by omega) (by omega), u8_or_128 (by omega) (by omega)]
      have := ih (n / 128) (by omega) k (acc ++ [((n % 128 + 128 : Nat) : Int)]) (by omega) (by omega) (by simp; omega)
      rw [show ((n : Int) / 128) = ((n / 128 : Nat) : Int) by omega, show ((n : Int) % 128 % 256 + 128) = ((n % 128 + 128 : Nat) : Int) by omega, this]
      simp
theorem len10 {n : Nat} (h : n < 18446744073709551616) : (numEnc n).length ≤ 10 := numEnc_len n 9 (by omega)
theorem code_Num_ev (n : Int) (h0 : 0 ≤ n) (h1 : n < 18446744073709551616) : Ev (fun k => code_Num.f k n) (numEnc n.toNat) := by
  refine ⟨10, fun k hk => ?_⟩
  have hl := len10 (n := n.toNat) (by omega)
  have := code_Num_l0 n.toNat k [] (by omega) (by omega) (by simp; omega)
  rw [Int.toNat_of_nonneg h0] at this
  unfold code_Num.f; simpa using this
theorem ref_Num_l0 (n : Nat) : ∀ (k : Nat) (acc : List Int), n < 18446744073709551616 → (numEnc n).length ≤ k → acc.length + (numEnc n).length < 140737488355328 → lienref02_Num.l0 k (n : Int) acc = some (acc ++ numEnc n) := by
  induction n using Nat.strongRecOn with
  | _ n ih =>
    intro k acc hn hk hl
    have hp := numEnc_pos n
    obtain ⟨k, rfl⟩ : ∃ m, k = m + 1 := ⟨k - 1, by omega⟩
    by_cases h : n < 128
    · rw [numEnc_lt h] at hl ⊢
      simp only [lienref02_Num.l0]
      rw [if_neg (by omega), if_pos (by simp at hl; omega)]
      rw [show (n : Int) % 256 = n by omega]
    · rw [numEnc_ge h] at hl hk ⊢
      simp only [List.length_cons] at hl hk
      simp only [lienref02_Num.l0]
      rw [if_pos (by omega), if_pos (by omega)]
      rw [Int.tdiv_eq_ediv_of_nonneg (by omega), Int.tmod_eq_emod_of_nonneg (by omega), wu64, wu64]
      have := ih (n / 128) (by omega) k (acc ++ [((n % 128 + 128 : Nat) : Int)]) (by omega) (by omega) (by simp; omega)
      rw [show ((n : Int) / 128 % 18446744073709551616) = ((n / 128 : Nat) : Int) by omega, show (((n : Int) % 128 + 128) % 18446744073709551616 % 256) = ((n % 128 + 128 : Nat) : Int) by omega, this]
      simp
theorem ref_Num_ev (n : Int) (h0 : 0 ≤ n) (h1 : n < 18446744073709551616) : Ev (fun k => lienref02_Num.f k n) (numEnc n.toNat) := by
  refine ⟨10, fun k hk => ?_⟩
  have hl := numEnc_len n.toNat 9 (by omega)
  have := ref_Num_l0 n.toNat k [] (by omega) (by omega) (by simp; omega)
  rw [Int.toNat_of_nonneg h0] at this
  unfold lienref02_Num.f; simpa using this
def dec : Nat → List Int → Option (Nat × List Int)
  | _, [] => none
  | i, c :: t => if 10 ≤ i ∨ (i = 9 ∧ c > 1) then none else if c < 128 then (if c = 0 ∧ 0 < i then none else some (c.toNat, t)) else (dec (i + 1) t).map fun p => ((c % 128).toNat + 128 * p.1, p.2)
def decRes (n i : Nat) : Option (Nat × List Int) → Int × List Int × Bool
  | none => (0, [], false)
  | some (v, r) => (((n + 2 ^ (7 * i) * v : Nat) : Int), r, true)
theorem dec_ten (l : List Int) (i : Nat) (h : 10 ≤ i) : dec i l = none := by
  cases l with
  | nil => rfl
  | cons c t => rw [dec, if_pos (.inl h)]
theorem pow7_succ (i : Nat) : 2 ^ (7 * (i + 1)) = 2 ^ (7 * i) * 128 := by rw [Nat.mul_add, Nat.pow_add]
theorem pow7_le {i : Nat} (h : i ≤ 9) : 2 ^ (7 * i) ≤ 9223372036854775808 := Nat.le_trans (Nat.pow_le_pow_right (by decide) (show 7 * i ≤ 63 by omega)) (by decide)
theorem pow7_le8 {i : Nat} (h : i ≤ 8) : 2 ^ (7 * i) ≤ 72057594037927936 := Nat.le_trans (Nat.pow_le_pow_right (by decide) (show 7 * i ≤ 56 by omega)) (by decide)
theorem take_step {n i : Nat} {c : Int} (hn : n < 2 ^ (7 * i)) (hi : i ≤ 9) (h0 : 0 ≤ c) (h1 : c < 256) (h9 : i = 9 → c ≤ 1) :
    Go.bits .or .u64 (n : Int) (shl .u64 (IntKind.u64.wrap (Go.bits .and .u8 c 127)) (IntKind.u64.wrap (7 * (IntKind.u64.wrap (i : Int))))) = ((n + 2 ^ (7 * i) * (c % 128).toNat : Nat) : Int) := by
  rw [u8_and127 h0 h1, wu64 (c % 128), wu64 (i : Int), wu64 (7 * _)]
  rw [show c % 128 % 18446744073709551616 = c % 128 by omega, show (7 * ((i : Int) % 18446744073709551616)) % 18446744073709551616 = ((7 * i : Nat) : Int) by omega]
  unfold shl
  rw [Int.toNat_natCast, Nat.min_eq_left (by simp [IntKind.bits]; omega), wu64]
  obtain ⟨m, hm⟩ : ∃ m : Nat, c % 128 = (m : Int) := ⟨(c % 128).toNat, by omega⟩
  rw [hm, Int.toNat_natCast]
  have hp := pow7_le hi
  have hlt : 2 ^ (7 * i) * m < 18446744073709551616 := by
    by_cases e : i = 9
    · subst e
      have := h9 rfl
      have : m ≤ 1 := by omega
      have h2 : 2 ^ (7 * 9) * m ≤ 2 ^ (7 * 9) * 1 := Nat.mul_le_mul_left _ this
      omega
    · have h8 := pow7_le8 (i := i) (by omega)
      have : m ≤ 127 := by omega
      have h2 : 2 ^ (7 * i) * m ≤ 72057594037927936 * 127 := Nat.mul_le_mul h8 this
      omega
  have e1 : ((m : Int) * 2 ^ (7 * i)) = ((2 ^ (7 * i) * m : Nat) : Int) := by rw [Int.natCast_mul, Int.mul_comm, Int.natCast_pow]; rfl
  rw [e1, show (((2 ^ (7 * i) * m : Nat) : Int) % 18446744073709551616) = ((2 ^ (7 * i) * m : Nat) : Int) by omega, bits_comm_or]
  rw [u64_join (7 * i) (by omega) (by exact_mod_cast Nat.mul_mod_right _ _) (by omega) (by omega) (by exact_mod_cast hn) (by omega)]
  push_cast
  omega
theorem behind_at (l : List Int) (i : Nat) (h : i ≤ l.length) (hl : l.length ≤ 140737488351232) : code_behind.f l (i : Int) = some (l.drop i) := by
  unfold code_behind.f
  simp only [Option.bind_some]
  rw [if_pos (by omega), if_pos (by omega), if_pos (by simp; omega)]
  simp
theorem code_TakeNum_l0 (l : List Int) (hb : Byt l) (hl : l.length ≤ 140737488351232) (d : Nat) : ∀ (i k n : Nat), l.length - i = d → i ≤ l.length → i ≤ 10 → n < 2 ^ (7 * i) → 2 * d + 2 ≤ k →
    code_TakeNum.l0 k l (n : Int) l (l.length : Int) (i : Int) = some (decRes n i (dec i (l.drop i))) := by
  induction d with
  | zero =>
    intro i k n hd hi h10 hn hk
    obtain ⟨k, rfl⟩ : ∃ m, k = m + 1 := ⟨k - 1, by omega⟩
    simp only [code_TakeNum.l0]
    rw [if_neg (by omega), List.drop_eq_nil_of_le (by omega)]; rfl
  | succ d ih =>
    intro i k n hd hi h10 hn hk
    obtain ⟨k, rfl⟩ : ∃ m, k = m + 1 + 1 := ⟨k - 2, by omega⟩
    have hlt : i < l.length := by omega
    obtain ⟨c0, c1⟩ := hb.rd (i : Int)
    rw [rd_drop hlt]
    simp only [code_TakeNum.l0]
    rw [if_pos (by omega), if_pos (by omega), if_pos (by omega)]
    generalize hc : rd l (i : Int) = c at c0 c1 ⊢
    by_cases bad : 10 ≤ i ∨ (i = 9 ∧ c > 1)
    · rw [dec, if_pos bad]
      rcases bad with bad | ⟨e, bad⟩
      · rw [if_neg (by omega), decide_eq_true (by omega)]
        simp only [code_TakeNum.j1]; rfl
      · rw [if_pos (by omega), if_pos bad]
        simp only [code_TakeNum.j1]; rfl
    · have h9 : i ≤ 9 := by omega
      have hc1 : i = 9 → c ≤ 1 := by omega
      have e : (if (i : Int) = 9 then (if c > 1 then (code_TakeNum.j1 (k + 1) l (n : Int) (i : Int) c l (l.length : Int) (i : Int) true) else (code_TakeNum.j1 (k + 1) l (n : Int) (i : Int) c l (l.length : Int) (i : Int) (decide ((i : Int) > 9)))) else (code_TakeNum.j1 (k + 1) l (n : Int) (i : Int) c l (l.length : Int) (i : Int) (decide ((i : Int) > 9)))) = code_TakeNum.j1 (k + 1) l (n : Int) (i : Int) c l (l.length : Int) (i : Int) false := by
        rw [decide_eq_false (by omega : ¬ (i : Int) > 9)]
        split
        · rw [if_neg (by omega)]
        · rfl
      rw [e, dec, if_neg bad]
      clear e
      simp only [code_TakeNum.j1]
      rw [if_neg (by decide), if_pos (by rw [wu64]; omega), take_step hn h9 c0 c1 hc1, wrap64_id (x := (i : Int) + 1) (by omega) (by omega)]
      by_cases h128 : c < 128
      · rw [if_pos h128, if_pos h128]
        rw [show ((i : Int) + 1) = ((i + 1 : Nat) : Int) by omega, behind_at l (i + 1) (by omega) hl]
        simp only [Option.bind_some]
        have hv : (c % 128).toNat = c.toNat := by rw [show c % 128 = c by omega]
        rw [hv]
        by_cases hz : c = 0
        · rw [if_pos hz]
          by_cases hi0 : 0 < i
          · rw [if_pos (by omega), if_pos ⟨hz, hi0⟩]; rfl
          · rw [if_neg (by omega), if_neg (by omega)]; rfl
        · rw [if_neg hz, if_neg (by omega)]; rfl
      · rw [if_neg h128, if_neg h128]
        rw [show ((i : Int) + 1) = ((i + 1 : Nat) : Int) by omega]
        have hm : (c % 128).toNat < 128 := by omega
        have hlt2 : n + 2 ^ (7 * i) * (c % 128).toNat < 2 ^ (7 * (i + 1)) := by
          rw [pow7_succ]
          have := Nat.mul_le_mul_left (2 ^ (7 * i)) (show (c % 128).toNat + 1 ≤ 128 by omega)
          rw [Nat.mul_add] at this
          omega
        rw [ih (i + 1) k _ (by omega) (by omega) (by omega) hlt2 (by omega)]
        congr 1
        cases dec (i + 1) (l.drop (i + 1)) with
        | none => rfl
        | some p =>
          obtain ⟨v, r⟩ := p
          simp only [decRes, Option.map_some]
          congr 2
          rw [pow7_succ, Nat.mul_add, Nat.add_assoc, Nat.mul_assoc]
theorem code_TakeNum_ev (l : List Int) (hb : Byt l) (hl : l.length ≤ 140737488351232) : Ev (fun k => code_TakeNum.f k l) (decRes 0 0 (dec 0 l)) := by
  refine ⟨2 * l.length + 2, fun k hk => ?_⟩
  unfold code_TakeNum.f
  have := code_TakeNum_l0 l hb hl l.length 0 k 0 (by omega) (by omega) (by omega) (by omega) (by omega)
  simpa using this
def valL : List Int → Nat
  | [] => 0
  | c :: t => (c % 128).toNat + 128 * valL t
theorem valL_lt (l : List Int) : valL l < 128 ^ l.length := by
  induction l with
  | nil => simp [valL]
  | cons c t ih =>
    simp only [valL, List.length_cons, Nat.pow_succ]
    omega
theorem valL_lt2 (l : List Int) (b : Int) (hb : b < 128) (h0 : 0 ≤ b) : valL (l ++ [b]) < (b.toNat + 1) * 128 ^ l.length ∧ b.toNat * 128 ^ l.length ≤ valL (l ++ [b]) := by
  induction l with
  | nil => simp [valL]; omega
  | cons c t ih =>
    obtain ⟨i1, i2⟩ := ih
    simp only [valL, List.cons_append, List.length_cons, Nat.pow_succ]
    rw [← Nat.mul_assoc, ← Nat.mul_assoc]
    omega
theorem numEnc_len_ge (n : Nat) : ∀ d, 128 ^ d ≤ n → d + 1 ≤ (numEnc n).length := by
  induction n using Nat.strongRecOn with
  | _ n ih =>
    intro d hd
    cases d with
    | zero => exact numEnc_pos n
    | succ d =>
      have h : ¬ n < 128 := by
        have := Nat.one_le_pow d 128 (by decide)
        rw [Nat.pow_succ] at hd
        omega
      rw [numEnc_ge h]
      have := ih (n / 128) (by omega) d (by rw [Nat.pow_succ] at hd; exact (Nat.le_div_iff_mul_le (by decide)).mpr hd)
      simp; omega
theorem dec_run (p : List Int) (b : Int) (r : List Int) (hb : b < 128) (hp : ∀ c ∈ p, 128 ≤ c) : ∀ i, i + p.length ≤ 9 →
    dec i (p ++ b :: r) = if (i + p.length = 9 ∧ b > 1) ∨ (b = 0 ∧ 0 < i + p.length) then none else some (valL (p ++ [(b.toNat : Int)]), r) := by
  induction p with
  | nil =>
    intro i hi
    simp only [List.nil_append, List.length_nil, Nat.add_zero] at hi ⊢
    rw [dec]
    by_cases c1 : i = 9 ∧ b > 1
    · rw [if_pos (.inr c1), if_pos (.inl c1)]
    · rw [if_neg (by omega), if_pos hb]
      by_cases c2 : b = 0 ∧ 0 < i
      · rw [if_pos c2, if_pos (.inr c2)]
      · rw [if_neg c2, if_neg (by omega)]
        simp [valL]; omega
  | cons c t ih =>
    intro i hi
    simp only [List.length_cons] at hi
    have hc := hp c (List.mem_cons_self ..)
    simp only [List.cons_append, List.length_cons]
    rw [dec, if_neg (by omega), if_neg (by omega), ih (fun x hx => hp x (List.mem_cons_of_mem _ hx)) (i + 1) (by omega)]
    rw [show i + 1 + t.length = i + (t.length + 1) by omega]
    split
    · rfl
    · simp [valL]
theorem dec_long (p : List Int) (r : List Int) (hp : ∀ c ∈ p, 128 ≤ c) : ∀ i, i + p.length = 10 → dec i (p ++ r) = none := by
  induction p with
  | nil => intro i hi; exact dec_ten _ _ (by simp at hi; omega)
  | cons c t ih =>
    intro i hi
    simp only [List.length_cons] at hi
    have hc := hp c (List.mem_cons_self ..)
    rw [List.cons_append, dec]
    split
    · rfl
    · rw [if_neg (by omega), ih (fun x hx => hp x (List.mem_cons_of_mem _ hx)) (i + 1) (by omega)]; rfl
theorem dec_all (p : List Int) (hp : ∀ c ∈ p, 128 ≤ c) : ∀ i, dec i p = none := by
  induction p with
  | nil => intro i; rfl
  | cons c t ih =>
    intro i
    have hc := hp c (List.mem_cons_self ..)
    rw [dec]
    split
    · rfl
    · rw [if_neg (by omega), ih (fun x hx => hp x (List.mem_cons_of_mem _ hx)) (i + 1)]; rfl
theorem ref_scan (l : List Int) (hl : l.length ≤ 140737488351232) (d : Nat) : ∀ i : Nat, 10 - i = d → i ≤ 10 → i ≤ l.length → (∀ j : Nat, j < i → 128 ≤ rd l (j : Int)) →
    ∃ n c : Nat, n ≤ 10 ∧ n ≤ l.length ∧ (∀ j : Nat, j < n → 128 ≤ rd l (j : Int)) ∧ (n = l.length ∨ n = 10 ∨ rd l (n : Int) < 128) ∧ ∀ k, lienref02_TakeNum.l0 (k + c) l (i : Int) = lienref02_TakeNum.j1 k l (n : Int) := by
  induction d with
  | zero =>
    intro i hd hi hil hp
    refine ⟨i, 1, hi, hil, hp, .inr (.inl (by omega)), fun k => ?_⟩
    simp only [lienref02_TakeNum.l0]
    split
    · rw [if_neg (by omega)]
    · rfl
  | succ d ih =>
    intro i hd hi hil hp
    by_cases e : i = l.length
    · refine ⟨i, 1, hi, hil, hp, .inl e, fun k => ?_⟩
      simp only [lienref02_TakeNum.l0]
      rw [if_neg (by omega)]
    · by_cases hc : rd l (i : Int) ≥ 128
      · obtain ⟨n, c, h1, h2, h3, h4, h5⟩ := ih (i + 1) (by omega) (by omega) (by omega) (fun j hj => by
          by_cases e : j = i
          · subst e; exact hc
          · exact hp j (by omega))
        refine ⟨n, c + 1, h1, h2, h3, h4, fun k => ?_⟩
        rw [show k + (c + 1) = (k + c) + 1 by omega]
        simp only [lienref02_TakeNum.l0]
        rw [if_pos (by omega), if_pos (by omega), if_pos (by omega), if_pos hc, wrap64_id (by omega) (by omega), show ((i : Int) + 1) = ((i + 1 : Nat) : Int) by omega]
        exact h5 k
      · refine ⟨i, 1, hi, hil, hp, .inr (.inr (by omega)), fun k => ?_⟩
        simp only [lienref02_TakeNum.l0]
        rw [if_pos (by omega), if_pos (by omega), if_pos (by omega), if_neg hc]
theorem drop_take_at {l : List Int} {n m : Nat} (hm : m ≤ n) (hn : n < l.length) : (l.take (n + 1)).drop m = rd l (m : Int) :: (l.take (n + 1)).drop (m + 1) := by
  have hlen : m < (l.take (n + 1)).length := by rw [List.length_take]; omega
  rw [rd_drop hlen, rd_nat, rd_nat, List.getD_eq_getElem?_getD, List.getD_eq_getElem?_getD, List.getElem?_take_of_lt (by omega)]
theorem ref_down (l : List Int) (hb : Byt l) (hl : l.length ≤ 140737488351232) (n : Nat) (hn : n < l.length) (j : Nat) (d : Nat) : ∀ m, m = j + d → m ≤ n + 1 → (∀ i, j ≤ i → i < m → valL ((l.take (n + 1)).drop (i + 1)) ≤ 144115188075855871) →
    ∀ k, lienref02_TakeNum.l1 (k + d) l (n : Int) (valL ((l.take (n + 1)).drop m) : Int) ((m : Int) - 1) = lienref02_TakeNum.l1 k l (n : Int) (valL ((l.take (n + 1)).drop j) : Int) ((j : Int) - 1) := by
  induction d with
  | zero => intro m hm _ _ k; subst hm; rfl
  | succ d ih =>
    intro m hm hmn hv k
    obtain ⟨i, rfl⟩ : ∃ i, m = i + 1 := ⟨m - 1, by omega⟩
    have hvi := hv i (by omega) (by omega)
    have hat := drop_take_at (l := l) (n := n) (m := i) (by omega) hn
    obtain ⟨c0, c1⟩ := hb.rd (i : Int)
    rw [show k + (d + 1) = (k + d) + 1 by omega]
    rw [lienref02_TakeNum.l1]
    rw [if_pos (by omega), if_neg (by omega), if_pos (by omega), if_pos (by omega)]
    have e1 : ((i + 1 : Nat) : Int) - 1 = (i : Int) := by omega
    rw [e1, wrap64_id (by omega) (by omega), Int.tmod_eq_emod_of_nonneg c0, wu64, wu64, wu64]
    have hV : valL ((l.take (n + 1)).drop i) = (rd l (i : Int) % 128).toNat + 128 * valL ((l.take (n + 1)).drop (i + 1)) := by rw [hat]; rfl
    have e2 : ((valL ((l.take (n + 1)).drop (i + 1)) : Int) * 128 % 18446744073709551616 + rd l (i : Int) % 128 % 18446744073709551616) % 18446744073709551616 = (valL ((l.take (n + 1)).drop i) : Int) := by rw [hV]; omega
    rw [e2]
    exact ih i (by omega) (by omega) (fun x hx hx2 => hv x hx (by omega)) k
theorem num_len_eq {V n : Nat} (h1 : V < 128 ^ (n + 1)) (h2 : 128 ^ n ≤ V ∨ n = 0) : (numEnc V).length = n + 1 := by
  have u1 := numEnc_len V n h1
  rcases h2 with h2 | h2
  · have u2 := numEnc_len_ge V n h2
    exact Nat.le_antisymm u1 u2
  · subst h2
    have := numEnc_pos V
    exact Nat.le_antisymm u1 this
theorem num_len_ne {V n : Nat} (h1 : V < 128 ^ n) (h0 : 0 < n) : (numEnc V).length ≠ n + 1 := by
  obtain ⟨m, rfl⟩ : ∃ m, n = m + 1 := ⟨n - 1, by omega⟩
  have u1 := numEnc_len V m h1
  intro e
  rw [e] at u1
  exact absurd u1 (by omega)
theorem ref_last (l : List Int) (n V k : Nat) (b : Int) (hl : l.length ≤ 140737488351232) (hlt : n < l.length) (c0 : 0 ≤ b) (hV64 : V < 18446744073709551616) (hVle : V < 128 ^ (n + 1))
    (vb1 : V < (b.toNat + 1) * 128 ^ n) (vb2 : b.toNat * 128 ^ n ≤ V) (d : Option (Nat × List Int)) (hd : d = if (n = 9 ∧ b > 1) ∨ (b = 0 ∧ 0 < n) then none else some (V, l.drop (n + 1))) (hk : 12 ≤ k) :
    lienref02_TakeNum.l1 k l (n : Int) (V : Int) (-1) = some (decRes 0 0 d) := by
  obtain ⟨k, rfl⟩ : ∃ m, k = m + 1 := ⟨k - 1, by omega⟩
  have hl10 := len10 hV64
  have hnf : lienref02_Num.f k (V : Int) = some (numEnc V) := by
    unfold lienref02_Num.f
    rw [ref_Num_l0 V k [] hV64 (by omega) (by rw [List.length_nil]; omega), List.nil_append]
  have hw : wrap64 ((n : Int) + 1) = (n : Int) + 1 := wrap64_id (by omega) (by omega)
  rw [lienref02_TakeNum.l1, if_neg (by decide), hnf, Option.bind_some, hw]
  clear hnf hl10 hk
  by_cases hz : b = 0 ∧ 0 < n
  · have hV : V < 128 ^ n := by
      rw [hz.1] at vb1
      have e : ((0 : Int).toNat + 1) * 128 ^ n = 128 ^ n := Nat.one_mul _
      rw [e] at vb1
      exact vb1
    have hne := num_len_ne hV hz.2
    have hcond : ¬ (((numEnc V).length : Int) = (n : Int) + 1) := fun e => hne (by exact_mod_cast e)
    rw [if_neg hcond, hd, if_pos (.inr hz), decRes]
  · have hn9 : ¬ (n = 9 ∧ b > 1) := by
      rintro ⟨e, hgt⟩
      have h2 : 2 * 128 ^ n ≤ b.toNat * 128 ^ n := Nat.mul_le_mul_right _ (by omega)
      have h3 := Nat.le_trans h2 vb2
      rw [e] at h3
      have p9 : 2 * 128 ^ 9 = 18446744073709551616 := by decide
      rw [p9] at h3
      omega
    have hlen : (numEnc V).length = n + 1 := num_len_eq hVle (by
      by_cases e0 : n = 0
      · exact .inr e0
      · left
        have h1 : 1 * 128 ^ n ≤ b.toNat * 128 ^ n := Nat.mul_le_mul_right _ (by omega)
        rw [Nat.one_mul] at h1
        exact Nat.le_trans h1 vb2)
    have hcond : ((numEnc V).length : Int) = (n : Int) + 1 := by exact_mod_cast hlen
    have hc2 : (0 : Int) ≤ (n : Int) + 1 := by omega
    have hc3 : (n : Int) + 1 ≤ (l.length : Int) := by omega
    have hc4 : ([] : List Int).length + (l.drop ((n : Int) + 1).toNat).length < 140737488355328 := by rw [List.length_drop, List.length_nil]; omega
    rw [if_pos hcond, Option.bind_some, if_pos hc2, if_pos hc3, if_pos hc4, hd, if_neg (fun h => h.elim hn9 hz), decRes, show ((n : Int) + 1).toNat = n + 1 by omega, List.nil_append, Nat.mul_zero, Nat.pow_zero, Nat.one_mul, Nat.zero_add]
theorem ref_TakeNum_ev (l : List Int) (hb : Byt l) (hl : l.length ≤ 140737488351232) : Ev (fun k => lienref02_TakeNum.f k l) (decRes 0 0 (dec 0 l)) := by
  obtain ⟨n, c, h10, hnl, hp, hend, hrun⟩ := ref_scan l hl 10 0 (by omega) (by omega) (by omega) (fun j hj => by omega)
  have hpp : ∀ x ∈ l.take n, 128 ≤ x := by
    intro x hx
    obtain ⟨j, hj, rfl⟩ := List.getElem_of_mem hx
    rw [List.length_take] at hj
    have := hp j (by omega)
    rw [rd_nat, List.getD_eq_getElem?_getD, List.getElem?_eq_getElem (by omega)] at this
    simpa [List.getElem_take] using this
  have hlen : (l.take n).length = n := by rw [List.length_take]; omega
  refine ⟨c + 40, fun k hk => ?_⟩
  obtain ⟨k, rfl⟩ : ∃ m, k = (m + 1 + 1) + c := ⟨k - c - 2, by omega⟩
  show lienref02_TakeNum.l0 _ l 0 = _
  have := hrun (k + 1 + 1)
  rw [show ((0 : Nat) : Int) = 0 from rfl] at this
  rw [this]
  simp only [lienref02_TakeNum.j1]
  by_cases e1 : n = l.length
  · rw [if_pos (by omega)]
    simp only [lienref02_TakeNum.j2]
    rw [if_pos trivial]
    have hall := dec_all l (by have := hpp; rwa [List.take_of_length_le (by omega)] at this) 0
    rw [hall]; rfl
  · rw [if_neg (by omega)]
    by_cases e2 : n = 10
    · rw [beq_iff_eq.mpr (by omega : (n : Int) = 10)]
      simp only [lienref02_TakeNum.j2]
      rw [if_pos trivial]
      have hlong := dec_long (l.take n) (l.drop n) hpp 0 (by omega)
      rw [List.take_append_drop] at hlong
      rw [hlong]; rfl
    · rw [beq_eq_false_iff_ne.mpr (by omega : (n : Int) ≠ 10)]
      simp only [lienref02_TakeNum.j2]
      rw [if_neg (by decide)]
      have hlt : n < l.length := by omega
      have hbn : rd l (n : Int) < 128 := by omega
      obtain ⟨c0, c1⟩ := hb.rd (n : Int)
      have hdec := dec_run (l.take n) (rd l (n : Int)) (l.drop (n + 1)) hbn hpp 0 (by omega)
      rw [← rd_drop hlt, List.take_append_drop, hlen] at hdec
      have htk : l.take (n + 1) = l.take n ++ [rd l (n : Int)] := by
        rw [List.take_succ_eq_append_getElem hlt, rd_nat, List.getD_eq_getElem?_getD, List.getElem?_eq_getElem hlt]; rfl
      have hcast : [((rd l (n : Int)).toNat : Int)] = [rd l (n : Int)] := by rw [Int.toNat_of_nonneg c0]
      have hv0 : valL ((l.take (n + 1)).drop (n + 1)) = 0 := by rw [List.drop_eq_nil_of_le (by rw [List.length_take]; omega)]; rfl
      have hvlt : ∀ i, i ≤ n + 1 → valL ((l.take (n + 1)).drop i) < 128 ^ (n + 1 - i) := fun i hi => by
        have := valL_lt ((l.take (n + 1)).drop i)
        rwa [List.length_drop, List.length_take, Nat.min_eq_left (by omega)] at this
      have hpow : ∀ i, i ≤ 8 → 128 ^ i ≤ 72057594037927936 := fun i hi => Nat.le_trans (Nat.pow_le_pow_right (by decide) hi) (by decide)
      obtain ⟨vb1, vb2⟩ := valL_lt2 (l.take n) (rd l (n : Int)) hbn c0
      rw [← htk, hlen] at vb1 vb2
      have hsmall : ∀ i, 1 ≤ i → i ≤ n → valL ((l.take (n + 1)).drop (i + 1)) ≤ 144115188075855871 := fun i h1 h2 => by
        have a1 := hvlt (i + 1) (by omega)
        have a2 := hpow (n + 1 - (i + 1)) (by omega)
        omega
      have hstep := ref_down l hb hl n hlt 1 n (n + 1) (by omega) (by omega) (fun i h1 h2 => hsmall i h1 (by omega))
      have hs1 := hstep (k - n)
      rw [show k - n + n = k by omega, hv0, show (((n + 1 : Nat) : Int) - 1) = (n : Int) by omega, show ((1 : Nat) : Int) - 1 = 0 from rfl] at hs1
      rw [show ((0 : Nat) : Int) = 0 from rfl] at hs1
      rw [hs1]
      have hV0 : valL (l.take (n + 1)) = (rd l 0 % 128).toNat + 128 * valL ((l.take (n + 1)).drop 1) := by
        have := drop_take_at (l := l) (n := n) (m := 0) (by omega) hlt
        rw [List.drop_zero] at this
        conv => lhs; rw [this]
        rfl
      have p9 : 128 ^ 9 = 9223372036854775808 := by decide
      generalize hV : valL (l.take (n + 1)) = V at *
      generalize hV1 : valL ((l.take (n + 1)).drop 1) = V1 at *
      generalize hbv : rd l (n : Int) = b at *
      by_cases big : 144115188075855871 < V1
      · obtain ⟨k2, hk2⟩ : ∃ m, k - n = m + 1 := ⟨k - n - 1, by omega⟩
        rw [hk2]
        simp only [lienref02_TakeNum.l1]
        rw [if_pos (by omega), if_pos (by omega)]
        have h9 : n = 9 := by
          by_cases e : n ≤ 8
          · have a1 := hvlt 1 (by omega)
            have a2 := hpow (n + 1 - 1) (by omega)
            omega
          · omega
        have hb1 : b > 1 := by
          by_cases e : b > 1
          · exact e
          · have h2 : (b.toNat + 1) * 128 ^ n ≤ 2 * 128 ^ n := Nat.mul_le_mul_right _ (by omega)
            rw [h9, p9] at h2
            rw [h9, p9] at vb1
            omega
        rw [hdec, if_pos (.inl ⟨by omega, hb1⟩)]
        rfl
      · have hs2 := ref_down l hb hl n hlt 0 1 1 (by omega) (by omega) (fun i h1 h2 => by
          have : i = 0 := by omega
          subst this
          show valL ((l.take (n + 1)).drop 1) ≤ _
          rw [hV1]
          omega)
        have hs3 := hs2 (k - n - 1)
        rw [show k - n - 1 + 1 = k - n by omega, show ((1 : Nat) : Int) - 1 = 0 from rfl, List.drop_zero, show (((0 : Nat) : Int) - 1) = -1 from rfl, hV, hV1] at hs3
        rw [hs3]
        exact ref_last l n V (k - n - 1) b hl hlt c0 (by omega) (by have := hvlt 0 (by omega); rw [List.drop_zero, hV] at this; exact this) vb1 vb2 (dec 0 l) (by rw [hdec, Int.toNat_of_nonneg c0, ← htk, hV, Nat.zero_add]) (by omega)
theorem dec_suf (l : List Int) : ∀ (i v : Nat) (r : List Int), dec i l = some (v, r) → r.length ≤ l.length ∧ (∀ x ∈ r, x ∈ l) := by
  induction l with
  | nil => intro i v r h; simp [dec] at h
  | cons c t ih =>
    intro i v r h
    rw [dec] at h
    split at h
    · cases h
    · split at h
      · split at h
        · cases h
        · simp only [Option.some.injEq, Prod.mk.injEq] at h
          obtain ⟨_, rfl⟩ := h
          exact ⟨by simp, fun x hx => List.mem_cons_of_mem _ hx⟩
      · rw [Option.map_eq_some_iff] at h
        obtain ⟨⟨v2, r2⟩, h1, h2⟩ := h
        simp only [Prod.mk.injEq] at h2
        obtain ⟨_, rfl⟩ := h2
        obtain ⟨a, b⟩ := ih (i + 1) v2 r2 h1
        exact ⟨by simp; omega, fun x hx => List.mem_cons_of_mem _ (b x hx)⟩
theorem decRes00 (d : Option (Nat × List Int)) : decRes 0 0 d = match d with | none => (0, [], false) | some (v, r) => ((v : Int), r, true) := by
  cases d with
  | none => rfl
  | some p => obtain ⟨v, r⟩ := p; simp [decRes]
theorem pow64 {i : Nat} (h : i ≤ 8) : 2 ^ (64 - 7 * i) = 128 * 2 ^ (64 - 7 * (i + 1)) := by
  rw [show 64 - 7 * i = 7 + (64 - 7 * (i + 1)) by omega, Nat.pow_add]
theorem pow64_ge {i : Nat} (h : i ≤ 8) : 256 ≤ 2 ^ (64 - 7 * i) := Nat.le_trans (show 256 ≤ 2 ^ 8 by decide) (Nat.pow_le_pow_right (by decide) (by omega))
theorem dec_enc (l : List Int) (hb : Byt l) : ∀ (i v : Nat) (r : List Int), dec i l = some (v, r) → numEnc v ++ r = l ∧ v < 2 ^ (64 - 7 * i) ∧ (0 < i → 0 < v) := by
  induction l with
  | nil => intro i v r h; simp [dec] at h
  | cons c t ih =>
    intro i v r h
    have hc := hb c (List.mem_cons_self ..)
    rw [dec] at h
    by_cases bad : 10 ≤ i ∨ (i = 9 ∧ c > 1)
    · rw [if_pos bad] at h; cases h
    · rw [if_neg bad] at h
      by_cases h1 : c < 128
      · rw [if_pos h1] at h
        by_cases h2 : c = 0 ∧ 0 < i
        · rw [if_pos h2] at h; cases h
        · rw [if_neg h2] at h
          simp only [Option.some.injEq, Prod.mk.injEq] at h
          obtain ⟨rfl, rfl⟩ := h
          refine ⟨?_, ?_, by omega⟩
          · rw [numEnc_lt (by omega), Int.toNat_of_nonneg hc.1]; rfl
          · by_cases h9 : i = 9
            · subst h9; have : (2 : Nat) ^ (64 - 7 * 9) = 2 := by decide
              omega
            · have := pow64_ge (i := i) (by omega)
              omega
      · rw [if_neg h1, Option.map_eq_some_iff] at h
        obtain ⟨⟨v2, r2⟩, h3, h2⟩ := h
        simp only [Prod.mk.injEq] at h2
        obtain ⟨rfl, rfl⟩ := h2
        obtain ⟨a, b, d⟩ := ih (fun x hx => hb x (List.mem_cons_of_mem _ hx)) (i + 1) v2 r2 h3
        have d := d (by omega)
        have hi : i ≤ 8 := by
          by_cases h9 : i = 9
          · omega
          · omega
        refine ⟨?_, ?_, by omega⟩
        · rw [numEnc_ge (by omega), show ((c % 128).toNat + 128 * v2) / 128 = v2 by omega, List.cons_append, a]
          congr 1
          omega
        · rw [pow64 hi]; omega
theorem within_val (a b c : Int) : rights_within.f a b c = some (decide (b ≤ a ∧ a ≤ c)) := by
  unfold rights_within.f
  by_cases h : a ≥ b
  · rw [if_pos h]
    exact congrArg some (decide_eq_decide.mpr (by omega))
  · rw [if_neg h, decide_eq_false (by omega)]
theorem wi (x : Int) (h0 : -9223372036854775808 ≤ x) (h1 : x ≤ 9223372036854775807) : wrap64 x = x := by unfold wrap64; omega
def snd (F H Q : Int) : Prop := (0 ≤ F ∧ F ≤ 1125899906842624) ∧ (0 ≤ H ∧ H ≤ 1125899906842624) ∧ (0 ≤ Q ∧ Q ≤ 1125899906842624) ∧ F + H ≤ 1125899906842624
def hld (N U : Int) : Prop := (1 ≤ N ∧ N ≤ 1125899906842624) ∧ (0 ≤ U ∧ U ≤ 1099511627776)
instance (F H Q : Int) : Decidable (snd F H Q) := by unfold snd; infer_instance
instance (N U : Int) : Decidable (hld N U) := by unfold hld; infer_instance
theorem sound_val (F H Q : Int) : rights_sound.f F H Q = some (decide (snd F H Q)) := by
  unfold rights_sound.f
  rw [within_val, within_val, within_val]
  by_cases h1 : 0 ≤ F ∧ F ≤ 1125899906842624
  · rw [decide_eq_true h1, Option.bind_some, if_pos rfl]
    by_cases h2 : 0 ≤ H ∧ H ≤ 1125899906842624
    · rw [decide_eq_true h2, Option.bind_some, if_pos rfl]
      by_cases h3 : 0 ≤ Q ∧ Q ≤ 1125899906842624
      · rw [decide_eq_true h3, Option.bind_some, if_pos rfl, wi _ (by omega) (by omega)]
        exact congrArg some (decide_eq_decide.mpr (by unfold snd; omega))
      · rw [decide_eq_false h3, Option.bind_some, if_neg (by decide), decide_eq_false (by unfold snd; omega)]
    · rw [decide_eq_false h2, Option.bind_some, if_neg (by decide), decide_eq_false (by unfold snd; omega)]
  · rw [decide_eq_false h1, Option.bind_some, if_neg (by decide), decide_eq_false (by unfold snd; omega)]
theorem holds_val (N U : Int) : rights_holds.f N U = some (decide (hld N U)) := by
  unfold rights_holds.f
  rw [within_val, within_val]
  by_cases h1 : 1 ≤ N ∧ N ≤ 1125899906842624
  · rw [decide_eq_true h1, Option.bind_some, if_pos rfl, Option.bind_some]
    exact congrArg some (decide_eq_decide.mpr (by unfold hld; omega))
  · rw [decide_eq_false h1, Option.bind_some, if_neg (by decide), decide_eq_false (by unfold hld; omega)]
theorem rwithin_val (a : Int) : lienref20_within.f a = some (decide (0 ≤ a ∧ a ≤ 1125899906842624)) := by
  unfold lienref20_within.f
  by_cases h : a ≥ 0
  · rw [if_pos h]
    exact congrArg some (decide_eq_decide.mpr (by omega))
  · rw [if_neg h, decide_eq_false (by omega)]
theorem rcheck_val (F H Q : Int) : lienref20_Check.f F H Q = some (if snd F H Q then 0 else 206) := by
  unfold lienref20_Check.f
  rw [rwithin_val, rwithin_val, rwithin_val]
  by_cases h1 : 0 ≤ F ∧ F ≤ 1125899906842624
  · rw [decide_eq_true h1, Option.bind_some, if_pos rfl]
    by_cases h2 : 0 ≤ H ∧ H ≤ 1125899906842624
    · rw [decide_eq_true h2, Option.bind_some, if_pos rfl]
      by_cases h3 : 0 ≤ Q ∧ Q ≤ 1125899906842624
      · rw [decide_eq_true h3, Option.bind_some, if_pos rfl, wi _ (by omega) (by omega)]
        by_cases h4 : F + H > 1125899906842624
        · rw [if_pos h4, if_neg (by unfold snd; omega)]
        · rw [if_neg h4, if_pos (by unfold snd; omega)]
      · rw [decide_eq_false h3, Option.bind_some, if_neg (by decide), if_neg (by unfold snd; omega)]
    · rw [decide_eq_false h2, Option.bind_some, if_neg (by decide), if_neg (by unfold snd; omega)]
  · rw [decide_eq_false h1, Option.bind_some, if_neg (by decide), if_neg (by unfold snd; omega)]
theorem rhold_val (N U : Int) : lienref20_CheckHold.f N U = some (if hld N U then 0 else 206) := by
  unfold lienref20_CheckHold.f
  by_cases h1 : N < 1
  · rw [if_pos h1, if_neg (by unfold hld; omega)]
  · rw [if_neg h1]
    by_cases h2 : N > 1125899906842624
    · rw [if_pos h2, if_neg (by unfold hld; omega)]
    · rw [if_neg h2]
      by_cases h3 : U < 0
      · rw [if_pos h3, if_neg (by unfold hld; omega)]
      · rw [if_neg h3]
        by_cases h4 : U > 1099511627776
        · rw [if_pos h4, if_neg (by unfold hld; omega)]
        · rw [if_neg h4, if_pos (by unfold hld; omega)]
theorem awake20 : Ev (fun k => lienlaw20_awake.f k) true := Ev.of (fun k => lienlaw20_awake.mono k) (k := 20) (by kernel_rfl)
def rowE (l : List Int) : List Int := l.flatMap fun x => numEnc x.toNat
theorem row_l0 (l : List Int) (hl : ∀ x ∈ l, 0 ≤ x ∧ x ≤ 1125899906842624) (h9 : l.length ≤ 9) (d : Nat) : ∀ (i : Nat) (acc : List Int), l.length - i = d → i ≤ l.length → acc.length + 10 * d < 140737488355328 → Ev (fun k => rights_row.l0 k acc l (l.length : Int) (i : Int)) (acc ++ rowE (l.drop i)) := by
  induction d with
  | zero =>
    intro i acc hd hi ha
    refine Ev.step (f := fun _ => some acc) (fun k => ?_) ?_
    · rw [rights_row.l0, if_neg (by omega)]
    · rw [List.drop_eq_nil_of_le (by omega), rowE, List.flatMap_nil, List.append_nil]; exact Ev.now _
  | succ d ih =>
    intro i acc hd hi ha
    have hlt : i < l.length := by omega
    have hm := hl _ (List.getElem_mem hlt)
    have er : rd l (i : Int) = l[i] := by rw [rd_nat, List.getD_eq_getElem?_getD, List.getElem?_eq_getElem hlt]; rfl
    have e9 := len10 (n := (l[i]).toNat) (by omega)
    refine Ev.step (f := fun k => (code_Num.f k l[i]).bind fun t => (if acc.length + t.length < 140737488355328 then (rights_row.l0 k (acc ++ t) l (l.length : Int) ((i + 1 : Nat) : Int)) else none)) (fun k => ?_) ?_
    · rw [rights_row.l0, if_pos (by omega), if_pos (by omega), if_pos (by omega), er, wi _ (by omega) (by omega), wu64, show l[i] % 18446744073709551616 = l[i] by omega]; rfl
    · refine Ev.bind (code_Num_ev _ hm.1 (by omega)) ?_
      have hx : acc.length + (numEnc (l[i]).toNat).length < 140737488355328 := by omega
      simp only [if_pos hx]
      have := ih (i + 1) (acc ++ numEnc (l[i]).toNat) (by omega) (by omega) (by rw [List.length_append]; omega)
      rw [List.drop_eq_getElem_cons hlt, rowE, List.flatMap_cons, ← List.append_assoc]
      exact this
theorem row_ev (l : List Int) (hl : ∀ x ∈ l, 0 ≤ x ∧ x ≤ 1125899906842624) (h9 : l.length ≤ 9) : Ev (fun k => rights_row.f k l) (rowE l) := by
  have := row_l0 l hl h9 l.length 0 [] (by omega) (by omega) (by simp only [List.length_nil]; omega)
  exact this
def decN : Nat → List Int → List Int × Bool
  | 0, l => ([], ((l.length : Int) == 0))
  | m + 1, l => match dec 0 l with
    | none => ([], false)
    | some (v, r) => if (v : Int) > 1125899906842624 then ([], false) else (wrap64 (v : Int) :: (decN m r).1, (decN m r).2)
theorem numsF_ev : ∀ (m : Nat) (l : List Int), Byt l → l.length ≤ 140737488351232 → Ev (fun k => numsF k m l) (decN m l) := by
  intro m
  induction m with
  | zero => intro l _ _; exact Ev.now _
  | succ m ih =>
    intro l hb hl
    show Ev (fun k => (code_TakeNum.f k l).bind fun t => if t.2.2 = true then (if t.1 > 1125899906842624 then some ([], false) else (numsF k m t.2.1).bind fun r => some (wrap64 t.1 :: r.1, r.2)) else some ([], false)) _
    refine Ev.bind (code_TakeNum_ev l hb hl) ?_
    rw [decRes00, decN]
    cases hd : dec 0 l with
    | none => exact Ev.now _
    | some p =>
      obtain ⟨v, r⟩ := p
      obtain ⟨h1, h2⟩ := dec_suf l 0 v r hd
      simp only [if_true]
      by_cases c : (v : Int) > 1125899906842624
      · simp only [if_pos c]; exact Ev.now _
      · simp only [if_neg c]
        exact Ev.bind (ih r (fun x hx => hb x (h2 x hx)) (by omega)) (Ev.now _)
theorem row_decN : ∀ (m : Nat) (l : List Int), Byt l → (decN m l).2 = true → rowE (decN m l).1 = l ∧ (decN m l).1.length = m ∧ ∀ x ∈ (decN m l).1, 0 ≤ x ∧ x ≤ 1125899906842624 := by
  intro m
  induction m with
  | zero =>
    intro l _ h
    have h1 : ((l.length : Int) == 0) = true := h
    have h2 : l.length = 0 := by have := beq_iff_eq.mp h1; omega
    rw [List.length_eq_zero_iff.mp h2]
    exact ⟨rfl, rfl, fun x hx => absurd hx List.not_mem_nil⟩
  | succ m ih =>
    intro l hb h
    rw [decN] at h ⊢
    cases hd : dec 0 l with
    | none => rw [hd] at h; exact absurd h (by simp)
    | some p =>
      obtain ⟨v, r⟩ := p
      rw [hd] at h
      simp only at h ⊢
      by_cases c : (v : Int) > 1125899906842624
      · rw [if_pos c] at h; exact absurd h (by simp)
      · rw [if_neg c] at h ⊢
        obtain ⟨_, h2⟩ := dec_suf l 0 v r hd
        obtain ⟨e, _, _⟩ := dec_enc l hb 0 v r hd
        obtain ⟨i1, i2, i3⟩ := ih r (fun x hx => hb x (h2 x hx)) h
        have ew : wrap64 (v : Int) = (v : Int) := wi _ (by omega) (by omega)
        refine ⟨?_, by rw [List.length_cons, i2], ?_⟩
        · show rowE (wrap64 (v : Int) :: (decN m r).1) = l
          rw [ew, rowE, List.flatMap_cons, Int.toNat_natCast]
          show numEnc v ++ rowE (decN m r).1 = l
          rw [i1, e]
        · intro x hx
          rcases List.mem_cons.mp hx with rfl | hx
          · rw [ew]; omega
          · exact i3 x hx
def raV (l : List Int) : Int × Int × Int × Int := if (decN 3 l).2 = true ∧ snd (rd (decN 3 l).1 0) (rd (decN 3 l).1 1) (rd (decN 3 l).1 2) then (rd (decN 3 l).1 0, rd (decN 3 l).1 1, rd (decN 3 l).1 2, 0) else (0, 0, 0, 206)
theorem racc_ev (l : List Int) (hb : Byt l) (hl : l.length ≤ 140737488351232) : Ev (fun k => rights_ReadAccount.f k l) (raV l) := by
  unfold rights_ReadAccount.f
  refine Ev.bind (numsF_ev 3 l hb hl) ?_
  unfold raV
  by_cases c : (decN 3 l).2 = true
  · simp only [if_pos c, sound_val, Option.bind_some]
    by_cases hs : snd (rd (decN 3 l).1 0) (rd (decN 3 l).1 1) (rd (decN 3 l).1 2)
    · simp only [decide_eq_true hs, if_true]
      rw [if_pos ⟨c, hs⟩]; exact Ev.now _
    · simp only [decide_eq_false hs, Bool.false_eq_true, if_false]
      rw [if_neg (fun h => hs h.2)]; exact Ev.now _
  · simp only [if_neg c]
    rw [if_neg (fun h => c h.1)]; exact Ev.now _
def rhV (l : List Int) : Int × Int × Int := if (decN 2 l).2 = true ∧ hld (rd (decN 2 l).1 0) (rd (decN 2 l).1 1) then (rd (decN 2 l).1 0, rd (decN 2 l).1 1, 0) else (0, 0, 206)
theorem rhold_ev (l : List Int) (hb : Byt l) (hl : l.length ≤ 140737488351232) : Ev (fun k => rights_ReadHold.f k l) (rhV l) := by
  unfold rights_ReadHold.f
  refine Ev.bind (numsF_ev 2 l hb hl) ?_
  unfold rhV
  by_cases c : (decN 2 l).2 = true
  · simp only [if_pos c, holds_val, Option.bind_some]
    by_cases hs : hld (rd (decN 2 l).1 0) (rd (decN 2 l).1 1)
    · simp only [decide_eq_true hs, if_true]
      rw [if_pos ⟨c, hs⟩]; exact Ev.now _
    · simp only [decide_eq_false hs, Bool.false_eq_true, if_false]
      rw [if_neg (fun h => hs h.2)]; exact Ev.now _
  · simp only [if_neg c]
    rw [if_neg (fun h => c h.1)]; exact Ev.now _
theorem mem3 {F H Q : Int} (hs : snd F H Q) : ∀ x ∈ [F, H, Q], 0 ≤ x ∧ x ≤ 1125899906842624 := by
  unfold snd at hs
  intro x hx
  simp only [List.mem_cons, List.not_mem_nil, or_false] at hx
  rcases hx with rfl | rfl | rfl <;> omega
theorem mem2 {N U : Int} (hs : hld N U) : ∀ x ∈ [N, U], 0 ≤ x ∧ x ≤ 1125899906842624 := by
  unfold hld at hs
  intro x hx
  simp only [List.mem_cons, List.not_mem_nil, or_false] at hx
  rcases hx with rfl | rfl <;> omega
theorem ab_ev (F H Q : Int) : Ev (fun k => rights_AccountBytes.f k F H Q) (if snd F H Q then (rowE [F, H, Q], 0) else ([], 206)) := by
  unfold rights_AccountBytes.f
  simp only [sound_val, Option.bind_some]
  by_cases hs : snd F H Q
  · simp only [decide_eq_true hs, if_true, if_pos hs]
    exact Ev.bind (row_ev _ (mem3 hs) (by simp)) (Ev.now _)
  · simp only [decide_eq_false hs, Bool.false_eq_true, if_false, if_neg hs]
    exact Ev.now _
theorem hb_ev (N U : Int) : Ev (fun k => rights_HoldBytes.f k N U) (if hld N U then (rowE [N, U], 0) else ([], 206)) := by
  unfold rights_HoldBytes.f
  simp only [holds_val, Option.bind_some]
  by_cases hs : hld N U
  · simp only [decide_eq_true hs, if_true, if_pos hs]
    exact Ev.bind (row_ev _ (mem2 hs) (by simp)) (Ev.now _)
  · simp only [decide_eq_false hs, Bool.false_eq_true, if_false, if_neg hs]
    exact Ev.now _
theorem rab_ev (F H Q : Int) : Ev (fun k => lienref20_AccountBytes.f k F H Q) (if snd F H Q then (rowE [F, H, Q], 0) else ([], 206)) := by
  unfold lienref20_AccountBytes.f
  simp only [rcheck_val, Option.bind_some]
  by_cases hs : snd F H Q
  · simp only [if_pos hs, if_true]
    have hs' := hs
    unfold snd at hs'
    have e1 : IntKind.u64.wrap F = F := by rw [wu64]; omega
    have e2 : IntKind.u64.wrap H = H := by rw [wu64]; omega
    have e3 : IntKind.u64.wrap Q = Q := by rw [wu64]; omega
    rw [e1, e2, e3]
    have l1 := len10 (n := F.toNat) (by omega)
    have l2 := len10 (n := H.toNat) (by omega)
    have l3 := len10 (n := Q.toNat) (by omega)
    refine Ev.bind (ref_Num_ev F (by omega) (by omega)) ?_
    refine Ev.bind (ref_Num_ev H (by omega) (by omega)) ?_
    have x1 : (numEnc F.toNat).length + (numEnc H.toNat).length < 140737488355328 := by omega
    simp only [if_pos x1]
    refine Ev.bind (ref_Num_ev Q (by omega) (by omega)) ?_
    have x2 : (numEnc F.toNat ++ numEnc H.toNat).length + (numEnc Q.toNat).length < 140737488355328 := by rw [List.length_append]; omega
    simp only [if_pos x2]
    have e : rowE [F, H, Q] = numEnc F.toNat ++ numEnc H.toNat ++ numEnc Q.toNat := by simp [rowE]
    rw [e]
    exact Ev.now _
  · simp only [if_neg hs]
    exact Ev.now _
theorem rhb_ev (N U : Int) : Ev (fun k => lienref20_HoldBytes.f k N U) (if hld N U then (rowE [N, U], 0) else ([], 206)) := by
  unfold lienref20_HoldBytes.f
  simp only [rhold_val, Option.bind_some]
  by_cases hs : hld N U
  · simp only [if_pos hs, if_true]
    have hs' := hs
    unfold hld at hs'
    have e1 : IntKind.u64.wrap N = N := by rw [wu64]; omega
    have e2 : IntKind.u64.wrap U = U := by rw [wu64]; omega
    rw [e1, e2]
    have l1 := len10 (n := N.toNat) (by omega)
    have l2 := len10 (n := U.toNat) (by omega)
    refine Ev.bind (ref_Num_ev N (by omega) (by omega)) ?_
    refine Ev.bind (ref_Num_ev U (by omega) (by omega)) ?_
    have x1 : (numEnc N.toNat).length + (numEnc U.toNat).length < 140737488355328 := by omega
    simp only [if_pos x1]
    have e : rowE [N, U] = numEnc N.toNat ++ numEnc U.toNat := by simp [rowE]
    rw [e]
    exact Ev.now _
  · simp only [if_neg hs]
    exact Ev.now _
theorem rnum_l0 : ∀ (d i : Nat) (l acc : List Int), Byt l → l.length ≤ 140737488351232 → i + d ≤ 9 → acc.length + d ≤ 9 → ∃ s, Ev (fun k => lienref20_numbers.l0 k l ((i + d : Nat) : Int) acc (i : Int)) (s, (decN d l).2) ∧ ((decN d l).2 = true → s = acc ++ (decN d l).1) := by
  intro d
  induction d with
  | zero =>
    intro i l acc hb hl hi ha
    refine ⟨acc, Ev.step (f := fun _ => some (acc, ((l.length : Int) == 0))) (fun k => ?_) (Ev.now _), fun _ => by rw [decN, List.append_nil]⟩
    rw [lienref20_numbers.l0, if_neg (by omega)]
  | succ d ih =>
    intro i l acc hb hl hi ha
    have hstep : ∀ k, lienref20_numbers.l0 (k + 1) l ((i + (d + 1) : Nat) : Int) acc (i : Int) = ((lienref02_TakeNum.f k l).bind fun bt258 => (if bt258.2.2 = true then (if bt258.1 > 1125899906842624 then (some (([] : List Int), false)) else (lienref20_numbers.l0 k bt258.2.1 ((i + (d + 1) : Nat) : Int) (acc ++ [wrap64 (bt258.1)]) ((i + 1 : Nat) : Int))) else (some (([] : List Int), false)))) := by
      intro k
      have ha2 : acc.length < 17592186044416 := by omega
      rw [lienref20_numbers.l0, if_pos (by omega), wi _ (by omega) (by omega)]
      simp only [if_pos ha2]
      rfl
    rw [decN]
    cases hd : dec 0 l with
    | none =>
      refine ⟨[], Ev.step hstep (Ev.bind (ref_TakeNum_ev l hb hl) ?_), fun h => absurd h (by simp)⟩
      rw [decRes00, hd]
      exact Ev.now _
    | some p =>
      obtain ⟨v, r⟩ := p
      obtain ⟨h1, h2⟩ := dec_suf l 0 v r hd
      simp only
      by_cases c : (v : Int) > 1125899906842624
      · rw [if_pos c]
        refine ⟨[], Ev.step hstep (Ev.bind (ref_TakeNum_ev l hb hl) ?_), fun h => absurd h (by simp)⟩
        rw [decRes00, hd]
        simp only [if_true, if_pos c]
        exact Ev.now _
      · rw [if_neg c]
        obtain ⟨s, g1, g2⟩ := ih (i + 1) r (acc ++ [wrap64 (v : Int)]) (fun x hx => hb x (h2 x hx)) (by omega) (by omega) (by rw [List.length_append, List.length_singleton]; omega)
        refine ⟨s, Ev.step hstep (Ev.bind (ref_TakeNum_ev l hb hl) ?_), fun h => ?_⟩
        · rw [decRes00, hd]
          simp only [if_true, if_neg c]
          rw [show i + (d + 1) = i + 1 + d by omega]
          exact g1
        · rw [g2 h, List.append_assoc]; rfl
theorem rracc_ev (l : List Int) (hb : Byt l) (hl : l.length ≤ 140737488351232) : Ev (fun k => lienref20_ReadAccount.f k l) (raV l) := by
  unfold lienref20_ReadAccount.f
  obtain ⟨s, g1, g2⟩ := rnum_l0 3 0 l [] hb hl (by decide) (by decide)
  refine Ev.bind (g := fun k => lienref20_numbers.f k l 3) g1 ?_
  unfold raV
  by_cases c : (decN 3 l).2 = true
  · have e := g2 c
    rw [List.nil_append] at e
    obtain ⟨_, hlen, _⟩ := row_decN 3 l hb c
    rw [e]
    have x0 : (0 : Int) < ((decN 3 l).1.length : Int) := by omega
    have x1 : (1 : Int) < ((decN 3 l).1.length : Int) := by omega
    have x2 : (2 : Int) < ((decN 3 l).1.length : Int) := by omega
    simp only [if_pos c, if_pos x0, if_pos x1, if_pos x2, rcheck_val, Option.bind_some]
    by_cases hs : snd (rd (decN 3 l).1 0) (rd (decN 3 l).1 1) (rd (decN 3 l).1 2)
    · simp only [if_pos hs, if_true]
      rw [if_pos ⟨c, hs⟩]; exact Ev.now _
    · have z : ¬ ((206 : Int) = 0) := by decide
      simp only [if_neg hs, if_neg z]
      rw [if_neg (fun h => hs h.2)]; exact Ev.now _
  · simp only [if_neg c]
    rw [if_neg (fun h => c h.1)]; exact Ev.now _
theorem rrhold_ev (l : List Int) (hb : Byt l) (hl : l.length ≤ 140737488351232) : Ev (fun k => lienref20_ReadHold.f k l) (rhV l) := by
  unfold lienref20_ReadHold.f
  obtain ⟨s, g1, g2⟩ := rnum_l0 2 0 l [] hb hl (by decide) (by decide)
  refine Ev.bind (g := fun k => lienref20_numbers.f k l 2) g1 ?_
  unfold rhV
  by_cases c : (decN 2 l).2 = true
  · have e := g2 c
    rw [List.nil_append] at e
    obtain ⟨_, hlen, _⟩ := row_decN 2 l hb c
    rw [e]
    have x0 : (0 : Int) < ((decN 2 l).1.length : Int) := by omega
    have x1 : (1 : Int) < ((decN 2 l).1.length : Int) := by omega
    simp only [if_pos c, if_pos x0, if_pos x1, rhold_val, Option.bind_some]
    by_cases hs : hld (rd (decN 2 l).1 0) (rd (decN 2 l).1 1)
    · simp only [if_pos hs, if_true]
      rw [if_pos ⟨c, hs⟩]; exact Ev.now _
    · have z : ¬ ((206 : Int) = 0) := by decide
      simp only [if_neg hs, if_neg z]
      rw [if_neg (fun h => hs h.2)]; exact Ev.now _
  · simp only [if_neg c]
    rw [if_neg (fun h => c h.1)]; exact Ev.now _
theorem tail_ev (l : List Int) (hb : Byt l) (hl : l.length ≤ 140737488351232) : Ev (fun k => ((rights_ReadAccount.f k l).bind fun bt304 => ((lienref20_ReadAccount.f k l).bind fun bt309 => ((rights_ReadHold.f k l).bind fun bt314 => ((lienref20_ReadHold.f k l).bind fun bt318 => (if (bt304.1 == bt309.1 && (bt304.2.1 == bt309.2.1 && (bt304.2.2.1 == bt309.2.2.1))) = true then (if bt304.2.2.2 = bt309.2.2.2 then (if (bt314.1 == bt318.1 && (bt314.2.1 == bt318.2.1)) = true then (if bt314.2.2 = bt318.2.2 then ((lienlaw20_awake.f k).bind fun t322 => (some t322)) else (some false)) else (some false)) else (some false)) else (some false))))))) true := by
  refine Ev.bind (racc_ev l hb hl) ?_
  refine Ev.bind (rracc_ev l hb hl) ?_
  refine Ev.bind (rhold_ev l hb hl) ?_
  refine Ev.bind (rrhold_ev l hb hl) ?_
  simp only [beq_self_eq_true, Bool.and_self, if_true]
  exact Ev.bind awake20 (Ev.now true)
theorem j0_ev (l : List Int) (hb : Byt l) (hl : l.length ≤ 140737488351232) : Ev (fun k => lienlaw20_RightsBytes.j0 k l false) true := Ev.step (fun k => by rw [lienlaw20_RightsBytes.j0, if_neg (by decide)]) (tail_ev l hb hl)
theorem j1_ev (l : List Int) (hb : Byt l) (hl : l.length ≤ 140737488351232) : Ev (fun k => lienlaw20_RightsBytes.j1 k l false) true := Ev.step (fun k => by rw [lienlaw20_RightsBytes.j1, if_neg (by decide)]) (tail_ev l hb hl)
theorem RightsBytes : lienlaw20_RightsBytes.Pure := by
  intro F H Q N U l _ _ _ _ _ hl
  obtain ⟨hl, _, hb⟩ := hl
  have hbt : Byt l := fun x hx => wf_u8 (hb x hx)
  have hl2 : l.length ≤ 140737488351232 := by omega
  refine Ev.rounds ?_
  unfold lienlaw20_RightsBytes.f
  by_cases c : (l.length : Int) > 100
  · have c2 : 100 ≤ (l.length : Int) := by omega
    simp only [if_pos c, if_pos c2]
    refine Ev.bind (ab_ev F H Q) ?_
    refine Ev.bind (rab_ev F H Q) ?_
    refine Ev.bind (hb_ev N U) ?_
    refine Ev.bind (rhb_ev N U) ?_
    simp only [if_true, bne_self_eq_false]
    exact j0_ev (l.take 100) (fun x hx => hbt x (List.mem_of_mem_take hx)) (by rw [List.length_take]; omega)
  · simp only [if_neg c]
    refine Ev.bind (ab_ev F H Q) ?_
    refine Ev.bind (rab_ev F H Q) ?_
    refine Ev.bind (hb_ev N U) ?_
    refine Ev.bind (rhb_ev N U) ?_
    simp only [if_true, bne_self_eq_false]
    exact j1_ev l hbt hl2
end Go.Proofs.Ytaodgncldakhgaa.Pure
