/- Written for the statement CodeBack over the program's printed functions: numbers and lists alone. -/
import Derived.Test.YtlehgphnjpgjnabPCodeBackx
set_option linter.unusedVariables false
set_option linter.unusedSimpArgs false
namespace Go.Proofs.Ytlehgphnjpgjnab.Pure
open Go.RowKit Go.Proofs.Ytlehgphnjpgjnab.PCodeBack Go.Proofs.YtlehgphnjpgjnabW Go.Proofs.YtlehgphnjpgjnabW.PrintWords Go.Proofs.YtlehgphnjpgjnabW.PrintLast Go.Proofs.YtlehgphnjpgjnabW.PrintMore

theorem wrap64_id {x : Int} (h0 : -9223372036854775808 ≤ x) (h1 : x ≤ 9223372036854775807) : wrap64 x = x := by unfold wrap64; omega
theorem wu64 (n : Int) : IntKind.u64.wrap n = n % 18446744073709551616 := by simp [IntKind.wrap, IntKind.bits, IntKind.signed]
theorem wraps_u64 (n : Int) (h0 : 0 ≤ n) (h1 : n < 2 ^ 64) : IntKind.u64.wrap n = n := by rw [wu64]; omega
theorem u64_and127 {x : Int} (h0 : 0 ≤ x) (h1 : x < 18446744073709551616) : Go.bits .and .u64 x 127 = x % 128 := Go.bits_mask .u64 64 (by decide) wraps_u64 7 (by decide) x h0 h1
theorem u8_and127 {x : Int} (h0 : 0 ≤ x) (h1 : x < 256) : Go.bits .and .u8 x 127 = x % 128 := Go.bits_mask .u8 8 (by decide) Go.wraps_u8 7 (by decide) x h0 h1
theorem bits_comm_or (k : IntKind) (x y : Int) : Go.bits .or k x y = Go.bits .or k y x := by simp [Go.bits, BitVec.or_comm]
theorem u8_or_128 {x : Int} (h0 : 0 ≤ x) (h1 : x < 128) : Go.bits .or .u8 x 128 = x + 128 := by
  rw [bits_comm_or, Go.bits_join .u8 8 (by decide) Go.wraps_u8 7 128 x (by decide) (by decide) (by decide) h0 h1 (by omega)]; omega
theorem u64_join (i : Nat) {x y : Int} (hx0 : 0 ≤ x) (hx : x % 2 ^ i = 0) (hx1 : x < 18446744073709551616) (hy0 : 0 ≤ y) (hy : y < 2 ^ i) (hy1 : y < 18446744073709551616) : Go.bits .or .u64 x y = x + y :=
  Go.bits_join .u64 64 (by decide) wraps_u64 i x y hx0 hx hx1 hy0 hy hy1
theorem wf_u64 {x : Int} (h : (Lit.int .u64 x).wf = true) : 0 ≤ x ∧ x < 18446744073709551616 := by
  simp [Lit.wf, IntKind.min, IntKind.max, IntKind.bits, IntKind.signed] at h; omega
theorem wf_u8 {x : Int} (h : (Lit.int .u8 x).wf = true) : 0 ≤ x ∧ x < 256 := by
  simp [Lit.wf, IntKind.min, IntKind.max, IntKind.bits, IntKind.signed] at h; omega
theorem wf_i64 {x : Int} (h : (Lit.int .i64 x).wf = true) : -9223372036854775808 ≤ x ∧ x ≤ 9223372036854775807 := by
  simp [Lit.wf, IntKind.min, IntKind.max, IntKind.bits, IntKind.signed] at h; omega
def Byt (l : List Int) : Prop := ∀ x ∈ l, 0 ≤ x ∧ x < 256
theorem Byt.of_wf {l : List Int} (h : ∀ x ∈ l, (Lit.int .u8 x).wf = true) : Byt l := fun x hx => wf_u8 (h x hx)
theorem Byt.rd {l : List Int} (h : Byt l) (i : Int) : 0 ≤ rd l i ∧ rd l i < 256 := by
  unfold PrintWords.rd
  rw [List.getD_eq_getElem?_getD]
  cases e : l[i.toNat]? with
  | none => simp
  | some x => exact h x (List.mem_of_getElem? e)
theorem Byt.take {l : List Int} (h : Byt l) (n : Nat) : Byt (l.take n) := fun x hx => h x (List.mem_of_mem_take hx)
theorem Byt.drop {l : List Int} (h : Byt l) (n : Nat) : Byt (l.drop n) := fun x hx => h x (List.mem_of_mem_drop hx)
theorem rd_nat (l : List Int) (i : Nat) : rd l (i : Int) = l.getD i 0 := by unfold PrintWords.rd; simp
theorem rd_drop {l : List Int} {i : Nat} (h : i < l.length) : l.drop i = rd l (i : Int) :: l.drop (i + 1) := by
  rw [rd_nat, List.drop_eq_getElem_cons h]; simp [List.getD_eq_getElem?_getD, List.getElem?_eq_getElem h]

def numEnc (n : Nat) : List Int := if n < 128 then [(n : Int)] else ((n % 128 + 128 : Nat) : Int) :: numEnc (n / 128)
theorem numEnc_lt {n : Nat} (h : n < 128) : numEnc n = [(n : Int)] := by rw [numEnc, if_pos h]
theorem numEnc_ge {n : Nat} (h : ¬ n < 128) : numEnc n = ((n % 128 + 128 : Nat) : Int) :: numEnc (n / 128) := by rw [numEnc, if_neg h]
theorem numEnc_byt (n : Nat) : Byt (numEnc n) := by
  induction n using Nat.strongRecOn with
  | _ n ih =>
    by_cases h : n < 128
    · rw [numEnc_lt h]; intro x hx; simp at hx; omega
    · rw [numEnc_ge h]; intro x hx
      rcases List.mem_cons.mp hx with rfl | hx
      · omega
      · exact ih (n / 128) (by omega) x hx
theorem numEnc_len (n : Nat) : ∀ d, n < 128 ^ (d + 1) → (numEnc n).length ≤ d + 1 := by
  induction n using Nat.strongRecOn with
  | _ n ih =>
    intro d hd
    by_cases h : n < 128
    · rw [numEnc_lt h]; simp
    · rw [numEnc_ge h]
      cases d with
      | zero => omega
      | succ d =>
        have := ih (n / 128) (by omega) d (by rw [Nat.pow_succ] at hd; exact Nat.div_lt_of_lt_mul (by omega))
        simp; omega
theorem numEnc_pos (n : Nat) : 0 < (numEnc n).length := by
  by_cases h : n < 128
  · rw [numEnc_lt h]; simp
  · rw [numEnc_ge h]; simp

theorem bl_eq (s : ByteArray) : s.toList = s.data.toList := ByteArray.toList_eq s
theorem ba_ext {a b : ByteArray} (h : a.toList = b.toList) : a = b := by
  rw [bl_eq, bl_eq] at h
  exact ByteArray.ext (Array.toList_inj.mp h)
theorem bl_len (s : ByteArray) : s.toList.length = s.size := by rw [bl_eq, Array.length_toList]; rfl
theorem bl_append (a b : ByteArray) : (a ++ b).toList = a.toList ++ b.toList := by rw [bl_eq, bl_eq, bl_eq, ByteArray.data_append, Array.toList_append]
theorem bl_extract (a : ByteArray) (i j : Nat) : (a.extract i j).toList = (a.toList.take j).drop i := by
  rw [bl_eq, bl_eq, ByteArray.data_extract, Array.toList_extract, List.extract_eq_take_drop, List.drop_take]
theorem bl_nums (xs : List Int) : (strOfNums xs).toList = xs.map fun n => UInt8.ofNat n.toNat := by rw [bl_eq]; rfl
theorem bt_nat (s : ByteArray) (i : Nat) (h : i < s.size) : bt s (i : Int) = ((s.toList[i]'(by rw [bl_len]; exact h)).toNat : Int) := by
  unfold PrintWords.bt
  rw [dif_pos (by simpa using h)]
  simp only [Int.toNat_natCast, bl_eq]
  rfl
theorem bl_bytesOf (s : ByteArray) : bytesOf s = s.toList.map fun b => (b.toNat : Int) := by unfold PrintWords.bytesOf; rw [bl_eq]
theorem less_app (p x y : List UInt8) : Op.bytesLess (p ++ x) (p ++ y) = Op.bytesLess x y := by
  induction p with
  | nil => rfl
  | cons c t ih => simp [Op.bytesLess, ih, UInt8.lt_irrefl]
theorem less_next {c d : UInt8} (h : c.toNat < d.toNat) (x y : List UInt8) : Op.bytesLess (c :: x) (d :: y) = true := by
  simp only [Op.bytesLess]
  rw [decide_eq_true (UInt8.lt_iff_toNat_lt.mpr h)]
  rfl

theorem code_Num_l0 (n : Nat) : ∀ (k : Nat) (acc : List Int), n < 18446744073709551616 → (numEnc n).length ≤ k → acc.length + (numEnc n).length < 140737488355328 → code_Num.l0 k (n : Int) acc = some (acc ++ numEnc n) := by
  induction n using Nat.strongRecOn with
  | _ n ih =>
    intro k acc hn hk hl
    have hp := numEnc_pos n
    obtain ⟨k, rfl⟩ : ∃ m, k = m + 1 := ⟨k - 1, by omega⟩
    by_cases h : n < 128
    · rw [numEnc_lt h] at hl ⊢
      simp only [code_Num.l0]
      rw [if_neg (by omega), if_pos (by simp at hl; omega)]
      rw [show (n : Int) % 256 = n by omega]
    · rw [numEnc_ge h] at hl hk ⊢
      simp only [List.length_cons] at hl hk
      simp only [code_Num.l0]
      rw [if_pos (by omega), if_pos (by omega)]
      rw [u64_and127 (by omega) (by omega), u8_or_128 (by omega) (by omega)]
      have := ih (n / 128) (by omega) k (acc ++ [((n % 128 + 128 : Nat) : Int)]) (by omega) (by omega) (by simp; omega)
      rw [show ((n : Int) / 128) = ((n / 128 : Nat) : Int) by omega, show ((n : Int) % 128 % 256 + 128) = ((n % 128 + 128 : Nat) : Int) by omega, this]
      simp
theorem len10 {n : Nat} (h : n < 18446744073709551616) : (numEnc n).length ≤ 10 := numEnc_len n 9 (by omega)
theorem code_Num_ev (n : Int) (h0 : 0 ≤ n) (h1 : n < 18446744073709551616) : Ev (fun k => code_Num.f k n) (numEnc n.toNat) := by
  refine ⟨10, fun k hk => ?_⟩
  have hl := len10 (n := n.toNat) (by omega)
  have := code_Num_l0 n.toNat k [] (by omega) (by omega) (by simp; omega)
  rw [Int.toNat_of_nonneg h0] at this
  unfold code_Num.f; simpa using this

def dec : Nat → List Int → Option (Nat × List Int)
  | _, [] => none
  | i, c :: t => if 10 ≤ i ∨ (i = 9 ∧ c > 1) then none else if c < 128 then (if c = 0 ∧ 0 < i then none else some (c.toNat, t)) else (dec (i + 1) t).map fun p => ((c % 128).toNat + 128 * p.1, p.2)
def decRes (n i : Nat) : Option (Nat × List Int) → Int × List Int × Bool
  | none => (0, [], false)
  | some (v, r) => (((n + 2 ^ (7 * i) * v : Nat) : Int), r, true)
theorem dec_ten (l : List Int) (i : Nat) (h : 10 ≤ i) : dec i l = none := by
  cases l with
  | nil => rfl
  | cons c t => rw [dec, if_pos (.inl h)]
theorem pow7_succ (i : Nat) : 2 ^ (7 * (i + 1)) = 2 ^ (7 * i) * 128 := by rw [Nat.mul_add, Nat.pow_add]
theorem pow7_le {i : Nat} (h : i ≤ 9) : 2 ^ (7 * i) ≤ 9223372036854775808 := Nat.le_trans (Nat.pow_le_pow_right (by decide) (show 7 * i ≤ 63 by omega)) (by decide)
theorem pow7_le8 {i : Nat} (h : i ≤ 8) : 2 ^ (7 * i) ≤ 72057594037927936 := Nat.le_trans (Nat.pow_le_pow_right (by decide) (show 7 * i ≤ 56 by omega)) (by decide)
/-- The seven bits of one byte, put in their place. -/
theorem take_step {n i : Nat} {c : Int} (hn : n < 2 ^ (7 * i)) (hi : i ≤ 9) (h0 : 0 ≤ c) (h1 : c < 256) (h9 : i = 9 → c ≤ 1) :
    Go.bits .or .u64 (n : Int) (shl .u64 (IntKind.u64.wrap (Go.bits .and .u8 c 127)) (IntKind.u64.wrap (7 * (IntKind.u64.wrap (i : Int))))) = ((n + 2 ^ (7 * i) * (c % 128).toNat : Nat) : Int) := by
  rw [u8_and127 h0 h1, wu64 (c % 128), wu64 (i : Int), wu64 (7 * _)]
  rw [show c % 128 % 18446744073709551616 = c % 128 by omega, show (7 * ((i : Int) % 18446744073709551616)) % 18446744073709551616 = ((7 * i : Nat) : Int) by omega]
  unfold shl
  rw [Int.toNat_natCast, Nat.min_eq_left (by simp [IntKind.bits]; omega), wu64]
  obtain ⟨m, hm⟩ : ∃ m : Nat, c % 128 = (m : Int) := ⟨(c % 128).toNat, by omega⟩
  rw [hm, Int.toNat_natCast]
  have hp := pow7_le hi
  have hlt : 2 ^ (7 * i) * m < 18446744073709551616 := by
    by_cases e : i = 9
    · subst e
      have := h9 rfl
      have : m ≤ 1 := by omega
      have h2 : 2 ^ (7 * 9) * m ≤ 2 ^ (7 * 9) * 1 := Nat.mul_le_mul_left _ this
      omega
    · have h8 := pow7_le8 (i := i) (by omega)
      have : m ≤ 127 := by omega
      have h2 : 2 ^ (7 * i) * m ≤ 72057594037927936 * 127 := Nat.mul_le_mul h8 this
      omega
  have e1 : ((m : Int) * 2 ^ (7 * i)) = ((2 ^ (7 * i) * m : Nat) : Int) := by rw [Int.natCast_mul, Int.mul_comm, Int.natCast_pow]; rfl
  rw [e1, show (((2 ^ (7 * i) * m : Nat) : Int) % 18446744073709551616) = ((2 ^ (7 * i) * m : Nat) : Int) by omega, bits_comm_or]
  rw [u64_join (7 * i) (by omega) (by exact_mod_cast Nat.mul_mod_right _ _) (by omega) (by omega) (by exact_mod_cast hn) (by omega)]
  push_cast
  omega

theorem behind_at (l : List Int) (i : Nat) (h : i ≤ l.length) (hl : l.length ≤ 140737488351232) : code_behind.f l (i : Int) = some (l.drop i) := by
  unfold code_behind.f
  simp only [Option.bind_some]
  rw [if_pos (by omega), if_pos (by omega), if_pos (by simp; omega)]
  simp

theorem code_TakeNum_l0 (l : List Int) (hb : Byt l) (hl : l.length ≤ 140737488351232) (d : Nat) : ∀ (i k n : Nat), l.length - i = d → i ≤ l.length → i ≤ 10 → n < 2 ^ (7 * i) → 2 * d + 2 ≤ k →
    code_TakeNum.l0 k l (n : Int) l (l.length : Int) (i : Int) = some (decRes n i (dec i (l.drop i))) := by
  induction d with
  | zero =>
    intro i k n hd hi h10 hn hk
    obtain ⟨k, rfl⟩ : ∃ m, k = m + 1 := ⟨k - 1, by omega⟩
    simp only [code_TakeNum.l0]
    rw [if_neg (by omega), List.drop_eq_nil_of_le (by omega)]; rfl
  | succ d ih =>
    intro i k n hd hi h10 hn hk
    obtain ⟨k, rfl⟩ : ∃ m, k = m + 1 + 1 := ⟨k - 2, by omega⟩
    have hlt : i < l.length := by omega
    obtain ⟨c0, c1⟩ := hb.rd (i : Int)
    rw [rd_drop hlt]
    simp only [code_TakeNum.l0]
    rw [if_pos (by omega), if_pos (by omega), if_pos (by omega)]
    generalize hc : rd l (i : Int) = c at c0 c1 ⊢
    by_cases bad : 10 ≤ i ∨ (i = 9 ∧ c > 1)
    · rw [dec, if_pos bad]
      rcases bad with bad | ⟨e, bad⟩
      · rw [if_neg (by omega), decide_eq_true (by omega)]
        simp only [code_TakeNum.j1]; rfl
      · rw [if_pos (by omega), if_pos bad]
        simp only [code_TakeNum.j1]; rfl
    · have h9 : i ≤ 9 := by omega
      have hc1 : i = 9 → c ≤ 1 := by omega
      have e : (if (i : Int) = 9 then (if c > 1 then (code_TakeNum.j1 (k + 1) l (n : Int) (i : Int) c l (l.length : Int) (i : Int) true) else (code_TakeNum.j1 (k + 1) l (n : Int) (i : Int) c l (l.length : Int) (i : Int) (decide ((i : Int) > 9)))) else (code_TakeNum.j1 (k + 1) l (n : Int) (i : Int) c l (l.length : Int) (i : Int) (decide ((i : Int) > 9)))) = code_TakeNum.j1 (k + 1) l (n : Int) (i : Int) c l (l.length : Int) (i : Int) false := by
        rw [decide_eq_false (by omega : ¬ (i : Int) > 9)]
        split
        · rw [if_neg (by omega)]
        · rfl
      rw [e, dec, if_neg bad]
      clear e
      simp only [code_TakeNum.j1]
      rw [if_neg (by decide), if_pos (by rw [wu64]; omega), take_step hn h9 c0 c1 hc1, wrap64_id (x := (i : Int) + 1) (by omega) (by omega)]
      by_cases h128 : c < 128
      · rw [if_pos h128, if_pos h128]
        rw [show ((i : Int) + 1) = ((i + 1 : Nat) : Int) by omega, behind_at l (i + 1) (by omega) hl]
        simp only [Option.bind_some]
        have hv : (c % 128).toNat = c.toNat := by rw [show c % 128 = c by omega]
        rw [hv]
        by_cases hz : c = 0
        · rw [if_pos hz]
          by_cases hi0 : 0 < i
          · rw [if_pos (by omega), if_pos ⟨hz, hi0⟩]; rfl
          · rw [if_neg (by omega), if_neg (by omega)]; rfl
        · rw [if_neg hz, if_neg (by omega)]; rfl
      · rw [if_neg h128, if_neg h128]
        rw [show ((i : Int) + 1) = ((i + 1 : Nat) : Int) by omega]
        have hm : (c % 128).toNat < 128 := by omega
        have hlt2 : n + 2 ^ (7 * i) * (c % 128).toNat < 2 ^ (7 * (i + 1)) := by
          rw [pow7_succ]
          have := Nat.mul_le_mul_left (2 ^ (7 * i)) (show (c % 128).toNat + 1 ≤ 128 by omega)
          rw [Nat.mul_add] at this
          omega
        rw [ih (i + 1) k _ (by omega) (by omega) (by omega) hlt2 (by omega)]
        congr 1
        cases dec (i + 1) (l.drop (i + 1)) with
        | none => rfl
        | some p =>
          obtain ⟨v, r⟩ := p
          simp only [decRes, Option.map_some]
          congr 2
          rw [pow7_succ, Nat.mul_add, Nat.add_assoc, Nat.mul_assoc]
theorem code_TakeNum_ev (l : List Int) (hb : Byt l) (hl : l.length ≤ 140737488351232) : Ev (fun k => code_TakeNum.f k l) (decRes 0 0 (dec 0 l)) := by
  refine ⟨2 * l.length + 2, fun k hk => ?_⟩
  unfold code_TakeNum.f
  have := code_TakeNum_l0 l hb hl l.length 0 k 0 (by omega) (by omega) (by omega) (by omega) (by omega)
  simpa using this

theorem dec_suf (l : List Int) : ∀ (i v : Nat) (r : List Int), dec i l = some (v, r) → r.length ≤ l.length ∧ (∀ x ∈ r, x ∈ l) := by
  induction l with
  | nil => intro i v r h; simp [dec] at h
  | cons c t ih =>
    intro i v r h
    rw [dec] at h
    split at h
    · cases h
    · split at h
      · split at h
        · cases h
        · simp only [Option.some.injEq, Prod.mk.injEq] at h
          obtain ⟨_, rfl⟩ := h
          exact ⟨by simp, fun x hx => List.mem_cons_of_mem _ hx⟩
      · rw [Option.map_eq_some_iff] at h
        obtain ⟨⟨v2, r2⟩, h1, h2⟩ := h
        simp only [Prod.mk.injEq] at h2
        obtain ⟨_, rfl⟩ := h2
        obtain ⟨a, b⟩ := ih (i + 1) v2 r2 h1
        exact ⟨by simp; omega, fun x hx => List.mem_cons_of_mem _ (b x hx)⟩
def ttOf (most : Int) : Option (Nat × List Int) → ByteArray × List Int × Bool
  | none => (⟨#[]⟩, [], false)
  | some (n, r) => if most < 0 ∨ (n : Int) > most ∨ r.length < n then (⟨#[]⟩, [], false) else (strOfNums (r.take n), r.drop n, true)
theorem decRes00 (d : Option (Nat × List Int)) : decRes 0 0 d = match d with | none => (0, [], false) | some (v, r) => ((v : Int), r, true) := by
  cases d with
  | none => rfl
  | some p => obtain ⟨v, r⟩ := p; simp [decRes]
theorem bytesOf_byt (s : ByteArray) : Byt (bytesOf s) := by
  intro x hx
  unfold PrintWords.bytesOf at hx
  obtain ⟨b, _, rfl⟩ := List.mem_map.mp hx
  have := b.toNat_lt
  omega

theorem code_TakeText_ev (l : List Int) (most : Int) (hb : Byt l) (hl : l.length ≤ 140737488351232) (hm0 : -9223372036854775808 ≤ most) (hm1 : most ≤ 9223372036854775807) : Ev (fun k => code_TakeText.f k l most) (ttOf most (dec 0 l)) := by
  unfold code_TakeText.f
  refine Ev.bind (code_TakeNum_ev l hb hl) ?_
  rw [decRes00]
  cases hd : dec 0 l with
  | none => exact Ev.now _
  | some p =>
    obtain ⟨n, r⟩ := p
    obtain ⟨hr, _⟩ := dec_suf l 0 n r hd
    simp only [ttOf]
    rw [if_pos trivial]
    by_cases c1 : most < 0
    · rw [if_pos c1, if_pos (.inl c1)]; exact Ev.now _
    · rw [if_neg c1]
      have e1 : IntKind.u64.wrap most = most := by rw [wu64]; omega
      have e2 : IntKind.u64.wrap (r.length : Int) = (r.length : Int) := by rw [wu64]; omega
      rw [e1, e2]
      by_cases c2 : (n : Int) > most
      · rw [if_pos c2, if_pos (.inr (.inl c2))]; exact Ev.now _
      · rw [if_neg c2]
        by_cases c3 : r.length < n
        · rw [if_pos (show (n : Int) > (r.length : Int) by omega), if_pos (.inr (.inr c3))]; exact Ev.now _
        · rw [if_neg (show ¬ ((n : Int) > (r.length : Int)) by omega), if_pos (show (0 : Int) ≤ (n : Int) by omega), if_pos (show (n : Int) ≤ (r.length : Int) by omega), if_neg (show ¬ (most < 0 ∨ (n : Int) > most ∨ r.length < n) by omega), wrap64_id (by omega) (by omega), behind_at r n (by omega) (by omega), Option.bind_some, Int.toNat_natCast]
          exact Ev.now _
theorem code_Text_ev (s : ByteArray) (hs : s.size ≤ 140737488351232) : Ev (fun k => code_Text.f k s) (numEnc s.size ++ bytesOf s) := by
  unfold code_Text.f
  have e : IntKind.u64.wrap (s.size : Int) = (s.size : Int) := by rw [wu64]; omega
  rw [e]
  refine Ev.bind (code_Num_ev (s.size : Int) (by omega) (by omega)) ?_
  have := len10 (n := s.size) (by omega)
  rw [Int.toNat_natCast, if_pos (by omega)]
  exact Ev.now _

theorem byt_back {xs : List Int} (h : Byt xs) : (xs.map fun n => ((UInt8.ofNat n.toNat).toNat : Int)) = xs := by
  induction xs with
  | nil => rfl
  | cons c t ih =>
    have hc := h c (List.mem_cons_self ..)
    rw [List.map_cons, ih (fun x hx => h x (List.mem_cons_of_mem _ hx)), UInt8.toNat_ofNat']
    congr 1
    omega
theorem bytesOf_nums {xs : List Int} (h : Byt xs) : bytesOf (strOfNums xs) = xs := by
  rw [bl_bytesOf, bl_nums, List.map_map]
  exact byt_back h
theorem nums_bytesOf (s : ByteArray) : strOfNums (bytesOf s) = s := by
  apply ba_ext
  rw [bl_nums, bl_bytesOf, List.map_map]
  conv => rhs; rw [← List.map_id s.toList]
  apply List.map_congr_left
  intro b _
  simp
theorem nums_size (xs : List Int) : (strOfNums xs).size = xs.length := by rw [← bl_len, bl_nums, List.length_map]
theorem strs_byt (s : ByteArray) : Byt (bytesOf s) := by
  intro x hx
  rw [bl_bytesOf] at hx
  obtain ⟨b, _, rfl⟩ := List.mem_map.mp hx
  have := b.toNat_lt
  omega

theorem pow64 {i : Nat} (h : i ≤ 8) : 2 ^ (64 - 7 * i) = 128 * 2 ^ (64 - 7 * (i + 1)) := by
  rw [show 64 - 7 * i = 7 + (64 - 7 * (i + 1)) by omega, Nat.pow_add]
theorem pow64_ge {i : Nat} (h : i ≤ 8) : 256 ≤ 2 ^ (64 - 7 * i) := Nat.le_trans (show 256 ≤ 2 ^ 8 by decide) (Nat.pow_le_pow_right (by decide) (by omega))
theorem dec_enc (l : List Int) (hb : Byt l) : ∀ (i v : Nat) (r : List Int), dec i l = some (v, r) → numEnc v ++ r = l ∧ v < 2 ^ (64 - 7 * i) ∧ (0 < i → 0 < v) := by
  induction l with
  | nil => intro i v r h; simp [dec] at h
  | cons c t ih =>
    intro i v r h
    have hc := hb c (List.mem_cons_self ..)
    rw [dec] at h
    by_cases bad : 10 ≤ i ∨ (i = 9 ∧ c > 1)
    · rw [if_pos bad] at h; cases h
    · rw [if_neg bad] at h
      by_cases h1 : c < 128
      · rw [if_pos h1] at h
        by_cases h2 : c = 0 ∧ 0 < i
        · rw [if_pos h2] at h; cases h
        · rw [if_neg h2] at h
          simp only [Option.some.injEq, Prod.mk.injEq] at h
          obtain ⟨rfl, rfl⟩ := h
          refine ⟨?_, ?_, by omega⟩
          · rw [numEnc_lt (by omega), Int.toNat_of_nonneg hc.1]; rfl
          · by_cases h9 : i = 9
            · subst h9; have : (2 : Nat) ^ (64 - 7 * 9) = 2 := by decide
              omega
            · have := pow64_ge (i := i) (by omega)
              omega
      · rw [if_neg h1, Option.map_eq_some_iff] at h
        obtain ⟨⟨v2, r2⟩, h3, h2⟩ := h
        simp only [Prod.mk.injEq] at h2
        obtain ⟨rfl, rfl⟩ := h2
        obtain ⟨a, b, d⟩ := ih (fun x hx => hb x (List.mem_cons_of_mem _ hx)) (i + 1) v2 r2 h3
        have d := d (by omega)
        have hi : i ≤ 8 := by
          by_cases h9 : i = 9
          · omega
          · omega
        refine ⟨?_, ?_, by omega⟩
        · rw [numEnc_ge (by omega), show ((c % 128).toNat + 128 * v2) / 128 = v2 by omega, List.cons_append, a]
          congr 1
          omega
        · rw [pow64 hi]; omega
theorem enc_dec (n : Nat) : ∀ (i : Nat) (r : List Int), n < 2 ^ (64 - 7 * i) → i ≤ 9 → (0 < i → 0 < n) → dec i (numEnc n ++ r) = some (n, r) := by
  induction n using Nat.strongRecOn with
  | _ n ih =>
    intro i r hn hi hp
    by_cases h : n < 128
    · rw [numEnc_lt h, List.cons_append, dec, if_neg, if_pos (by omega), if_neg (by omega)]
      · simp
      · intro bad
        rcases bad with bad | ⟨rfl, bad⟩
        · omega
        · have : (2 : Nat) ^ (64 - 7 * 9) = 2 := by decide
          omega
    · have h9 : i ≠ 9 := by
        intro e; subst e
        have : (2 : Nat) ^ (64 - 7 * 9) = 2 := by decide
        omega
      rw [pow64 (by omega)] at hn
      rw [numEnc_ge h, List.cons_append, dec, if_neg (by omega), if_neg (by omega), ih (n / 128) (by omega) (i + 1) r (by omega) (by omega) (by omega), Option.map_some]
      congr 2
      omega

def escI (c : Int) : List Int := if c = 0 then [0, 255] else [c]
def encI (p : ByteArray) : List Int := (bytesOf p).flatMap escI ++ [0, 1]
def keyI (ps : List ByteArray) : List Int := ps.flatMap encI
def esc (c : UInt8) : List UInt8 := if c = 0 then [0, 255] else [c]
def enc1 (p : List UInt8) : List UInt8 := p.flatMap esc ++ [0, 1]
def encK (ps : List (List UInt8)) : List UInt8 := ps.flatMap enc1
def back8 (n : Int) : UInt8 := UInt8.ofNat n.toNat
theorem back_esc (c : UInt8) : (escI (c.toNat : Int)).map back8 = esc c := by
  unfold escI esc
  by_cases h : c = 0
  · subst h; rfl
  · rw [if_neg h, if_neg (fun e => h (UInt8.toNat_inj.mp (by simpa using e)))]
    simp [back8]
theorem back_flat (l : List UInt8) : ((l.map fun b => (b.toNat : Int)).flatMap escI).map back8 = l.flatMap esc := by
  induction l with
  | nil => rfl
  | cons c t ih => simp only [List.map_cons, List.flatMap_cons, List.map_append, ih, back_esc]
theorem back_enc (p : ByteArray) : (encI p).map back8 = enc1 p.toList := by
  unfold encI enc1
  rw [List.map_append, bl_bytesOf, back_flat]; rfl
theorem key_list (ps : List ByteArray) : (strOfNums (keyI ps)).toList = encK (ps.map ByteArray.toList) := by
  rw [bl_nums]
  show (keyI ps).map back8 = _
  unfold keyI encK
  induction ps with
  | nil => rfl
  | cons p t ih => simp only [List.flatMap_cons, List.map_append, List.map_cons, ih, back_enc]
theorem escI_len (c : Int) : (escI c).length ≤ 2 := by unfold escI; split <;> simp
theorem flat_len (l : List Int) : (l.flatMap escI).length ≤ 2 * l.length := by
  induction l with
  | nil => simp
  | cons c t ih => rw [List.flatMap_cons, List.length_append, List.length_cons]; have := escI_len c; omega
theorem encI_len (p : ByteArray) : (encI p).length ≤ 2 * p.size + 2 := by
  unfold encI
  have := flat_len (bytesOf p)
  rw [bytesOf_length] at this
  rw [List.length_append]
  simp only [List.length_cons, List.length_nil]
  omega
theorem keyI_cons (p : ByteArray) (t : List ByteArray) : keyI (p :: t) = encI p ++ keyI t := by rw [keyI, keyI, List.flatMap_cons]
theorem keyI_len (ps : List ByteArray) (h : ∀ p ∈ ps, p.size ≤ 4096) : (keyI ps).length ≤ ps.length * 8194 := by
  unfold keyI
  induction ps with
  | nil => simp
  | cons p t ih =>
    have h1 := encI_len p
    have h2 := h p (List.mem_cons_self ..)
    have h3 := ih (fun x hx => h x (List.mem_cons_of_mem _ hx))
    rw [List.flatMap_cons, List.length_append, List.length_cons]
    omega
theorem rdOf_nat (l : List ByteArray) (i : Nat) (h : i < l.length) : rdOf ByteArray.empty l (i : Int) = l[i] := by
  unfold PrintWords.rdOf
  rw [Int.toNat_natCast, List.getD_eq_getElem?_getD, List.getElem?_eq_getElem h]; rfl
theorem bytesOf_drop (p : ByteArray) (i : Nat) (h : i < p.size) : (bytesOf p).drop i = bt p (i : Int) :: (bytesOf p).drop (i + 1) := by
  rw [rd_drop (by rw [bytesOf_length]; exact h), rd_bytesOf]

theorem code_Key_l1 (p : ByteArray) (hp : p.size ≤ 140737488351232) (ps : List ByteArray) (j : Int) (d : Nat) : ∀ (i k : Nat) (acc : List Int), p.size - i = d → i ≤ p.size → acc.length + (((bytesOf p).drop i).flatMap escI).length + 2 < 140737488355328 → j < 9223372036854775807 → 0 ≤ j →
    code_Key.l1 (k + d + 1) acc p (i : Int) ps (ps.length : Int) j = code_Key.l0 k (acc ++ ((bytesOf p).drop i).flatMap escI ++ [0, 1]) ps (ps.length : Int) (j + 1) := by
  induction d with
  | zero =>
    intro i k acc hd hi hl hj hj0
    have e : (bytesOf p).drop i = [] := List.drop_eq_nil_of_le (by rw [bytesOf_length]; omega)
    rw [e] at hl ⊢
    rw [code_Key.l1, if_neg (by omega), Option.bind_some, if_pos (by simp at hl ⊢; omega), wrap64_id (by omega) (by omega)]
    simp
  | succ d ih =>
    intro i k acc hd hi hl hj hj0
    have hlt : i < p.size := by omega
    rw [bytesOf_drop p i hlt] at hl ⊢
    rw [List.flatMap_cons, List.length_append] at hl
    rw [show k + (d + 1) + 1 = (k + d + 1) + 1 by omega, code_Key.l1, if_pos (by omega), if_pos (by omega)]
    by_cases c : bt p (i : Int) = 0
    · have el : (escI (bt p (i : Int))).length = 2 := by rw [escI, if_pos c]; rfl
      rw [if_pos (by omega), Option.bind_some, if_pos c, if_pos (by simp; omega), wrap64_id (by omega) (by omega)]
      have := ih (i + 1) k (acc ++ [bt p (i : Int)] ++ [255]) (by omega) (by omega) (by simp only [List.length_append, List.length_cons, List.length_nil]; omega) hj hj0
      rw [show ((i : Int) + 1) = ((i + 1 : Nat) : Int) by omega, this, List.flatMap_cons, escI, if_pos c, c]
      simp
    · have el : (escI (bt p (i : Int))).length = 1 := by rw [escI, if_neg c]; rfl
      rw [if_pos (by omega), Option.bind_some, if_neg c, wrap64_id (by omega) (by omega)]
      have := ih (i + 1) k (acc ++ [bt p (i : Int)]) (by omega) (by omega) (by simp only [List.length_append, List.length_cons, List.length_nil]; omega) hj hj0
      rw [show ((i : Int) + 1) = ((i + 1 : Nat) : Int) by omega, this, List.flatMap_cons, escI, if_neg c]
      simp
def keyRounds : List ByteArray → Nat
  | [] => 1
  | p :: t => p.size + 2 + keyRounds t
theorem code_Key_l0 (ps : List ByteArray) (hps : ps.length ≤ 8) (d : Nat) : ∀ (i k : Nat) (acc : List Int), ps.length - i = d → i ≤ ps.length → (∀ p ∈ ps, p.size ≤ 140737488351232) → acc.length + (keyI (ps.drop i)).length < 140737488355328 → keyRounds (ps.drop i) ≤ k →
    code_Key.l0 k acc ps (ps.length : Int) (i : Int) = some (strOfNums (acc ++ keyI (ps.drop i)), 0) := by
  induction d with
  | zero =>
    intro i k acc hd hi hs hl hk
    have e : ps.drop i = [] := List.drop_eq_nil_of_le (by omega)
    rw [e] at hk ⊢
    simp only [keyRounds] at hk
    obtain ⟨k, rfl⟩ : ∃ m, k = m + 1 := ⟨k - 1, by omega⟩
    rw [code_Key.l0, if_neg (by omega)]
    simp [keyI]
  | succ d ih =>
    intro i k acc hd hi hs hl hk
    have hlt : i < ps.length := by omega
    have e : ps.drop i = ps[i] :: ps.drop (i + 1) := List.drop_eq_getElem_cons hlt
    rw [e] at hk hl ⊢
    simp only [keyRounds] at hk
    have hl2 : acc.length + ((encI ps[i]).length + (keyI (ps.drop (i + 1))).length) < 140737488355328 := by
      rw [keyI_cons, List.length_append] at hl
      exact hl
    have el : (encI ps[i]).length = ((bytesOf ps[i]).flatMap escI).length + 2 := by simp [encI]
    obtain ⟨k, rfl⟩ : ∃ m, k = m + 1 := ⟨k - 1, by omega⟩
    rw [code_Key.l0, if_pos (by omega), if_pos (by omega), if_pos (by omega), rdOf_nat ps i hlt]
    obtain ⟨k2, hk2⟩ : ∃ m, k = m + ps[i].size + 1 := ⟨k - ps[i].size - 1, by omega⟩
    have h1 := code_Key_l1 ps[i] (hs _ (List.getElem_mem _)) ps (i : Int) ps[i].size 0 k2 acc (by omega) (by omega) (by rw [List.drop_zero]; omega) (by omega) (by omega)
    rw [List.drop_zero] at h1
    rw [hk2, show (0 : Int) = ((0 : Nat) : Int) from rfl, h1, show ((i : Int) + 1) = ((i + 1 : Nat) : Int) by omega]
    rw [ih (i + 1) k2 _ (by omega) (by omega) hs (by simp only [List.length_append, List.length_cons, List.length_nil]; omega) (by omega)]
    rw [keyI_cons, encI]
    simp only [List.append_assoc]
    rfl
theorem code_Key_ev (ps : List ByteArray) (hs : ∀ p ∈ ps, p.size ≤ 140737488351232) (hl : (keyI ps).length < 140737488355328) : Ev (fun k => code_Key.f k ps) (if ps.length ≤ 8 then (strOfNums (keyI ps), 0) else ((⟨#[]⟩ : ByteArray), 3)) := by
  refine ⟨keyRounds ps, fun k hk => ?_⟩
  show code_Key.f k ps = _
  unfold code_Key.f
  by_cases h : ps.length ≤ 8
  · rw [if_neg (by omega), if_pos h]
    have := code_Key_l0 ps h ps.length 0 k [] (by omega) (by omega) hs (by simpa using hl) (by simpa using hk)
    simpa using this
  · rw [if_pos (by omega), if_neg h]

def shortB (s : ByteArray) : ByteArray := if s.size > 4096 then s.extract 0 4096 else s
theorem shortB_size (s : ByteArray) : (shortB s).size ≤ 4096 := by
  unfold shortB
  split
  · rw [ByteArray.size_extract]; omega
  · omega
theorem short_val (s : ByteArray) : lienlaw02_short.f s = some (shortB s) := by
  unfold lienlaw02_short.f shortB
  by_cases h : s.size > 4096
  · rw [if_pos (by omega), if_pos (by omega), if_pos (by omega), if_pos h]
  · rw [if_neg (by omega), if_neg h]
def rowsOf (l : List ByteArray) : List ByteArray := (l.take 9).map shortB
theorem rowsOf_small (l : List ByteArray) : ∀ p ∈ rowsOf l, p.size ≤ 4096 := fun p hp => by
  obtain ⟨q, _, rfl⟩ := List.mem_map.mp hp
  exact shortB_size q
theorem rowsOf_len (l : List ByteArray) : (rowsOf l).length ≤ 9 := by unfold rowsOf; rw [List.length_map, List.length_take]; omega
theorem rows_l0 (l : List ByteArray) (d : Nat) : ∀ (i k : Nat) (acc : List ByteArray), 9 - i = d → i ≤ 9 → acc.length ≤ i → d + 1 ≤ k →
    lienlaw02_rows.l0 k l acc (i : Int) = some (acc ++ ((l.take 9).drop i).map shortB) := by
  induction d with
  | zero =>
    intro i k acc hd hi ha hk
    obtain ⟨k, rfl⟩ : ∃ m, k = m + 1 := ⟨k - 1, by omega⟩
    have e : (l.take 9).drop i = [] := List.drop_eq_nil_of_le (by rw [List.length_take]; omega)
    rw [lienlaw02_rows.l0, e]
    split
    · rw [if_neg (by omega)]; simp
    · simp
  | succ d ih =>
    intro i k acc hd hi ha hk
    obtain ⟨k, rfl⟩ : ∃ m, k = m + 1 := ⟨k - 1, by omega⟩
    rw [lienlaw02_rows.l0]
    by_cases h : i < l.length
    · rw [if_pos (by omega), if_pos (by omega), if_pos (by omega), rdOf_nat l i h, short_val, Option.bind_some, if_pos (by omega), wrap64_id (by omega) (by omega)]
      have ht : i < (l.take 9).length := by rw [List.length_take]; omega
      have e : (l.take 9).drop i = l[i] :: (l.take 9).drop (i + 1) := by
        rw [List.drop_eq_getElem_cons ht]; simp
      have := ih (i + 1) k (acc ++ [shortB l[i]]) (by omega) (by omega) (by simp; omega) (by omega)
      rw [show ((i : Int) + 1) = ((i + 1 : Nat) : Int) by omega, this, e]
      simp
    · have e : (l.take 9).drop i = [] := List.drop_eq_nil_of_le (by rw [List.length_take]; omega)
      rw [if_neg (by omega), e]; simp
theorem rows_ev (l : List ByteArray) : Ev (fun k => lienlaw02_rows.f k l) (rowsOf l) := ⟨10, fun k hk => by
  have := rows_l0 l 9 0 k [] (by omega) (by omega) (by simp) (by omega)
  simpa [lienlaw02_rows.f, rowsOf] using this⟩
theorem rows_key (l : List ByteArray) : (keyI (rowsOf l)).length < 140737488355328 := by
  have h1 := keyI_len (rowsOf l) (rowsOf_small l)
  have h2 := rowsOf_len l
  have : (rowsOf l).length * 8194 ≤ 9 * 8194 := Nat.mul_le_mul_right _ h2
  omega

def decI : List Int → List ByteArray → List Int → Bool → (List ByteArray × Int)
  | [], out, _, op => if op = true then ([], 20) else if (out.length : Int) > 8 then ([], 20) else (out, 0)
  | [c], _, _, _ => if c = 0 then ([], 20) else ([], 20)
  | c :: d :: t, out, part, _ => if c = 0 then (if d = 255 then decI t out (part ++ [0]) true else if d = 1 then decI t (out ++ [strOfNums part]) [] false else ([], 20)) else decI (d :: t) out (part ++ [c]) true
theorem decI_ne {c : Int} (h : c ≠ 0) (l : List Int) (out : List ByteArray) (part : List Int) (op : Bool) : decI (c :: l) out part op = decI l out (part ++ [c]) true := by
  cases l with
  | nil => rw [decI.eq_2, if_neg h, decI.eq_1, if_pos rfl]
  | cons d t => rw [decI.eq_3, if_neg h]
theorem decI_op (l : List Int) (h : l ≠ []) (out : List ByteArray) (part : List Int) (o1 o2 : Bool) : decI l out part o1 = decI l out part o2 := by
  cases l with
  | nil => exact absurd rfl h
  | cons c l => cases l with
    | nil => rw [decI.eq_2, decI.eq_2]
    | cons d t => rw [decI.eq_3, decI.eq_3]
def partsOf (key : ByteArray) : List ByteArray × Int := decI (bytesOf key) [] [] false

theorem code_Parts_l (key : ByteArray) (hs : key.size ≤ 1000000) : ∀ d : Nat,
    (∀ (i k : Nat) (out : List ByteArray) (part : List Int), key.size - i = d → i ≤ key.size → part.length + d ≤ 1000000 → out.length + d ≤ 1000000 → 2 * d + 1 ≤ k →
      code_Parts.l1 k key out part (i : Int) = some (decI ((bytesOf key).drop i) out part true)) ∧
    (∀ (i k : Nat) (out : List ByteArray) (part : List Int), key.size - i = d → i ≤ key.size → out.length + d ≤ 1000000 → 2 * d + 2 ≤ k →
      code_Parts.l0 k key out part (i : Int) = some (decI ((bytesOf key).drop i) out [] false)) := by
  intro d
  induction d using Nat.strongRecOn with
  | _ d ih =>
  have H1 : ∀ (i k : Nat) (out : List ByteArray) (part : List Int), key.size - i = d → i ≤ key.size → part.length + d ≤ 1000000 → out.length + d ≤ 1000000 → 2 * d + 1 ≤ k →
      code_Parts.l1 k key out part (i : Int) = some (decI ((bytesOf key).drop i) out part true) := by
    intro i k out part hd hi hp ho hk
    obtain ⟨k, rfl⟩ : ∃ m, k = m + 1 := ⟨k - 1, by omega⟩
    rw [code_Parts.l1]
    by_cases hlt : i < key.size
    · rw [if_pos (by omega), if_pos (by omega), bytesOf_drop key i hlt, wrap64_id (by omega) (by omega)]
      by_cases c : bt key (i : Int) = 0
      · rw [if_pos c]
        by_cases hend : i + 1 = key.size
        · rw [if_pos (by omega)]
          have e : (bytesOf key).drop (i + 1) = [] := List.drop_eq_nil_of_le (by rw [bytesOf_length]; omega)
          rw [e, decI, if_pos c]
        · have h2 : i + 1 < key.size := by omega
          rw [if_neg (by omega), if_pos (by omega), if_pos (by omega), bytesOf_drop key (i + 1) h2, decI, if_pos c, wrap64_id (by omega) (by omega)]
          rw [show ((i : Int) + 1) = ((i + 1 : Nat) : Int) by omega, show (((i + 1 : Nat) : Int) + 1) = ((i + 1 + 1 : Nat) : Int) by omega]
          by_cases b : bt key ((i + 1 : Nat) : Int) = 255
          · rw [if_pos b, if_pos b, if_pos (by omega)]
            exact (ih (d - 2) (by omega)).1 (i + 1 + 1) k out _ (by omega) (by omega) (by simp only [List.length_append, List.length_cons, List.length_nil]; omega) (by omega) (by omega)
          · rw [if_neg b, if_neg b]
            by_cases b1 : bt key ((i + 1 : Nat) : Int) = 1
            · rw [if_pos b1, if_pos b1, if_pos (by omega)]
              exact (ih (d - 2) (by omega)).2 (i + 1 + 1) k _ _ (by omega) (by omega) (by simp only [List.length_append, List.length_cons, List.length_nil]; omega) (by omega)
            · rw [if_neg b1, if_neg b1]
      · rw [if_neg c, if_pos (by omega), decI_ne c, show ((i : Int) + 1) = ((i + 1 : Nat) : Int) by omega]
        exact (ih (d - 1) (by omega)).1 (i + 1) k out _ (by omega) (by omega) (by simp only [List.length_append, List.length_cons, List.length_nil]; omega) (by omega) (by omega)
    · rw [if_neg (by omega)]
      have e : (bytesOf key).drop i = [] := List.drop_eq_nil_of_le (by rw [bytesOf_length]; omega)
      rw [e, decI, if_pos rfl]
  refine ⟨H1, ?_⟩
  intro i k out part hd hi ho hk
  obtain ⟨k, rfl⟩ : ∃ m, k = m + 1 := ⟨k - 1, by omega⟩
  rw [code_Parts.l0]
  by_cases hlt : i < key.size
  · rw [if_pos (by omega), if_pos (by omega), show part.take (0 : Int).toNat = [] from rfl, H1 i k out [] hd hi (by simp only [List.length_nil]; omega) ho (by omega)]
    rw [decI_op _ (by rw [bytesOf_drop key i hlt]; exact List.cons_ne_nil _ _) out [] true false]
  · rw [if_neg (by omega)]
    have e : (bytesOf key).drop i = [] := List.drop_eq_nil_of_le (by rw [bytesOf_length]; omega)
    rw [e, decI.eq_1]
    simp only [Bool.false_eq_true, if_false]
    by_cases c : (out.length : Int) > 8
    · rw [if_pos c, if_pos c]
    · rw [if_neg c, if_neg c]
theorem code_Parts_ev (key : ByteArray) (hs : key.size ≤ 1000000) : Ev (fun k => code_Parts.f k key) (partsOf key) := ⟨2 * key.size + 2, fun k hk => by
  have := (code_Parts_l key hs key.size).2 0 k [] [] (by omega) (by omega) (by simp only [List.length_nil]; omega) hk
  rw [List.drop_zero] at this
  exact this⟩

theorem keyI_app (a b : List ByteArray) : keyI (a ++ b) = keyI a ++ keyI b := by unfold keyI; rw [List.flatMap_append]
theorem enc_nums {part : List Int} (h : Byt part) : encI (strOfNums part) = part.flatMap escI ++ [0, 1] := by rw [encI, bytesOf_nums h]
theorem decI_len : ∀ (n : Nat) (l : List Int) (out : List ByteArray) (part : List Int) (op : Bool), l.length = n → (decI l out part op).1.length ≤ 8 ∧ ((decI l out part op).2 = 0 ∨ decI l out part op = ([], 20)) := by
  intro n
  induction n using Nat.strongRecOn with
  | _ n ih =>
  intro l out part op h
  match l, h with
  | [], _ =>
    rw [decI.eq_1]
    by_cases c : op = true
    · rw [if_pos c]; simp
    · rw [if_neg c]
      by_cases c2 : (out.length : Int) > 8
      · rw [if_pos c2]; simp
      · rw [if_neg c2]; exact ⟨by show out.length ≤ 8; omega, .inl rfl⟩
  | [c], _ => rw [decI.eq_2]; split <;> simp
  | c :: d :: t, h =>
    simp only [List.length_cons] at h
    rw [decI.eq_3]
    split
    · split
      · exact ih t.length (by omega) t _ _ _ rfl
      · split
        · exact ih t.length (by omega) t _ _ _ rfl
        · simp
    · exact ih (d :: t).length (by simp only [List.length_cons]; omega) (d :: t) _ _ _ rfl
theorem Byt.snoc {l : List Int} (h : Byt l) {c : Int} (h0 : 0 ≤ c) (h1 : c < 256) : Byt (l ++ [c]) := by
  intro x hx
  rcases List.mem_append.mp hx with hx | hx
  · exact h x hx
  · have := List.mem_singleton.mp hx; omega
theorem decI_enc : ∀ (n : Nat) (l : List Int) (out : List ByteArray) (part : List Int) (op : Bool), l.length = n → Byt l → Byt part → (op = false → part = []) → (decI l out part op).2 = 0 → keyI (decI l out part op).1 = keyI out ++ part.flatMap escI ++ l := by
  intro n
  induction n using Nat.strongRecOn with
  | _ n ih =>
  intro l out part op h hl hp ho h0
  match l, h with
  | [], _ =>
    rw [decI.eq_1] at h0 ⊢
    by_cases c : op = true
    · rw [if_pos c] at h0; exact absurd h0 (by decide)
    · rw [if_neg c] at h0 ⊢
      have := ho (by simpa using c)
      subst this
      by_cases c2 : (out.length : Int) > 8
      · rw [if_pos c2] at h0; exact absurd h0 (by decide)
      · rw [if_neg c2]; simp
  | [c], _ => rw [decI.eq_2] at h0; split at h0 <;> exact absurd h0 (by decide)
  | c :: d :: t, h =>
    simp only [List.length_cons] at h
    have hc := hl c (List.mem_cons_self ..)
    have ht : Byt (d :: t) := fun x hx => hl x (List.mem_cons_of_mem _ hx)
    have ht2 : Byt t := fun x hx => ht x (List.mem_cons_of_mem _ hx)
    rw [decI.eq_3] at h0 ⊢
    by_cases c0 : c = 0
    · rw [if_pos c0] at h0 ⊢
      by_cases c1 : d = 255
      · rw [if_pos c1] at h0 ⊢
        rw [ih t.length (by omega) t _ _ _ rfl ht2 (hp.snoc (by decide) (by decide)) (by simp) h0, c0, c1, List.flatMap_append]
        simp [escI]
      · rw [if_neg c1] at h0 ⊢
        by_cases c2 : d = 1
        · rw [if_pos c2] at h0 ⊢
          rw [ih t.length (by omega) t _ _ _ rfl ht2 (fun x hx => absurd hx List.not_mem_nil) (fun _ => rfl) h0, c0, c2, keyI_app, keyI_cons, enc_nums hp]
          simp [keyI]
        · rw [if_neg c2] at h0; exact absurd h0 (by decide)
    · rw [if_neg c0] at h0 ⊢
      rw [ih (d :: t).length (by simp only [List.length_cons]; omega) (d :: t) _ _ _ rfl ht (hp.snoc hc.1 hc.2) (by simp) h0, List.flatMap_append]
      simp [escI, c0]
theorem decI_part (x : List Int) (t : List Int) (out : List ByteArray) : ∀ (part : List Int) (op : Bool), decI (x.flatMap escI ++ (0 :: 1 :: t)) out part op = decI t (out ++ [strOfNums (part ++ x)]) [] false := by
  induction x with
  | nil =>
    intro part op
    rw [List.flatMap_nil, List.nil_append, decI.eq_3, if_pos rfl, if_neg (by decide), if_pos rfl, List.append_nil]
  | cons c x ih =>
    intro part op
    rw [List.flatMap_cons, List.append_assoc]
    by_cases c0 : c = 0
    · rw [escI, if_pos c0]
      show decI (0 :: 255 :: (x.flatMap escI ++ (0 :: 1 :: t))) out part op = _
      rw [decI.eq_3, if_pos rfl, if_pos rfl, ih, c0, List.append_assoc]; rfl
    · rw [escI, if_neg c0]
      show decI (c :: (x.flatMap escI ++ (0 :: 1 :: t))) out part op = _
      rw [decI_ne c0, ih, List.append_assoc]; rfl
theorem decI_key (ps : List ByteArray) : ∀ (out : List ByteArray), decI (keyI ps) out [] false = if ((out ++ ps).length : Int) > 8 then ([], 20) else (out ++ ps, 0) := by
  induction ps with
  | nil => intro out; rw [show keyI ([] : List ByteArray) = [] from rfl, decI.eq_1, List.append_nil]; simp only [Bool.false_eq_true, if_false]
  | cons p t ih =>
    intro out
    rw [keyI_cons, encI, List.append_assoc]
    show decI ((bytesOf p).flatMap escI ++ (0 :: 1 :: keyI t)) out [] false = _
    rw [decI_part, ih, List.nil_append, nums_bytesOf, List.append_assoc]; rfl
theorem part_le (ps : List ByteArray) : ∀ p ∈ ps, p.size ≤ (keyI ps).length := by
  induction ps with
  | nil => intro p hp; exact absurd hp List.not_mem_nil
  | cons q t ih =>
    intro p hp
    rw [keyI_cons, List.length_append]
    rcases List.mem_cons.mp hp with rfl | hp
    · have : ∀ l : List Int, l.length ≤ (l.flatMap escI).length := by
        intro l
        induction l with
        | nil => simp
        | cons c l ih2 =>
          rw [List.flatMap_cons, List.length_append, List.length_cons]
          have : 1 ≤ (escI c).length := by unfold escI; split <;> simp
          omega
      have := this (bytesOf p)
      rw [bytesOf_length] at this
      rw [encI, List.length_append]
      omega
    · have := ih p hp
      omega

theorem same_l0 (a b : List ByteArray) (h : a.map ByteArray.toList = b.map ByteArray.toList) (ha : a.length < 9223372036854775807) (d : Nat) : ∀ (i k : Nat), a.length - i = d → i ≤ a.length → d + 1 ≤ k → lienlaw02_same.l0 k a b (i : Int) = some true := by
  have hl : a.length = b.length := by have := congrArg List.length h; simpa using this
  induction d with
  | zero =>
    intro i k hd hi hk
    obtain ⟨k, rfl⟩ : ∃ m, k = m + 1 := ⟨k - 1, by omega⟩
    rw [lienlaw02_same.l0, if_neg (by omega)]
  | succ d ih =>
    intro i k hd hi hk
    obtain ⟨k, rfl⟩ : ∃ m, k = m + 1 := ⟨k - 1, by omega⟩
    have hlt : i < a.length := by omega
    have e : a[i].toList = (b[i]'(by omega)).toList := by
      have h1 : (a.map ByteArray.toList)[i]? = (b.map ByteArray.toList)[i]? := by rw [h]
      rw [List.getElem?_map, List.getElem?_map, List.getElem?_eq_getElem hlt, List.getElem?_eq_getElem (by omega)] at h1
      simpa using h1
    rw [lienlaw02_same.l0, if_pos (by omega), if_pos (by omega), if_pos (by omega), rdOf_nat a i hlt, rdOf_nat b i (by omega), if_pos e, wrap64_id (by omega) (by omega), show ((i : Int) + 1) = ((i + 1 : Nat) : Int) by omega]
    exact ih (i + 1) k (by omega) (by omega) (by omega)
theorem same_ev (a b : List ByteArray) (h : a.map ByteArray.toList = b.map ByteArray.toList) (ha : a.length < 9223372036854775807) : Ev (fun k => lienlaw02_same.f k a b) true := ⟨a.length + 1, fun k hk => by
  have hl : a.length = b.length := by have := congrArg List.length h; simpa using this
  show lienlaw02_same.f k a b = some true
  unfold lienlaw02_same.f
  rw [if_pos (by omega)]
  exact same_l0 a b h ha a.length 0 k (by omega) (by omega) hk⟩

def fixEnc (n : Nat) : Nat → List Int
  | 0 => []
  | s + 1 => fixEnc (n / 256) s ++ [((n % 256 : Nat) : Int)]
theorem fixEnc_len (s : Nat) : ∀ n, (fixEnc n s).length = s := by
  induction s with
  | zero => intro n; rfl
  | succ s ih => intro n; simp [fixEnc, ih]
theorem fixEnc_byt (s : Nat) : ∀ n, Byt (fixEnc n s) := by
  induction s with
  | zero => intro n x hx; simp [fixEnc] at hx
  | succ s ih =>
    intro n x hx
    simp only [fixEnc, List.mem_append, List.mem_singleton] at hx
    rcases hx with hx | rfl
    · exact ih _ x hx
    · omega
def fixVal (l : List Int) : Nat := l.foldl (fun v c => v * 256 + c.toNat) 0
theorem fixVal_snoc (l : List Int) (c : Int) : fixVal (l ++ [c]) = fixVal l * 256 + c.toNat := by simp [fixVal]
theorem fixVal_lt (l : List Int) (h : Byt l) : fixVal l < 256 ^ l.length := by
  have : ∀ (r : List Int), Byt r.reverse → fixVal r.reverse < 256 ^ r.length := by
    intro r
    induction r with
    | nil => intro _; simp [fixVal]
    | cons c t ih =>
      intro hb
      rw [List.reverse_cons] at hb ⊢
      have h1 := ih (fun x hx => hb x (List.mem_append_left _ hx))
      have h2 := hb c (by simp)
      rw [fixVal_snoc, List.length_cons, Nat.pow_succ]
      omega
  have h2 := this l.reverse (by rw [List.reverse_reverse]; exact h)
  rwa [List.reverse_reverse, List.length_reverse] at h2
def tf (l : List Int) (s : Int) : Int × List Int × Bool := if 1 ≤ s ∧ s ≤ 8 ∧ s ≤ l.length then ((fixVal (l.take s.toNat) : Int), l.drop s.toNat, true) else (0, [], false)
def fx (n : Int) (s : Int) : List Int := if 1 ≤ s ∧ s ≤ 8 then fixEnc n.toNat s.toNat else []
theorem fixVal_small {l : List Int} {i : Nat} (hb : Byt l) (hi : i ≤ 8) : fixVal (l.take i) < 18446744073709551616 := by
  have h1 := fixVal_lt (l.take i) (hb.take i)
  have h2 : 256 ^ (l.take i).length ≤ 256 ^ 8 := Nat.pow_le_pow_right (by decide) (by rw [List.length_take]; omega)
  have h3 : 256 ^ 8 = 18446744073709551616 := by decide
  rw [h3] at h2
  exact Nat.lt_of_lt_of_le h1 h2
theorem fixVal_step {l : List Int} {i : Nat} (hb : Byt l) (h : i < l.length) : fixVal (l.take (i + 1)) = fixVal (l.take i) * 256 + (rd l (i : Int)).toNat := by
  rw [List.take_succ_eq_append_getElem h, fixVal_snoc, rd_nat, List.getD_eq_getElem?_getD, List.getElem?_eq_getElem h]; rfl
theorem fixVal_small7 {l : List Int} {i : Nat} (hb : Byt l) (hi : i ≤ 7) : fixVal (l.take i) < 72057594037927936 := by
  have h1 := fixVal_lt (l.take i) (hb.take i)
  have h2 : 256 ^ (l.take i).length ≤ 256 ^ 7 := Nat.pow_le_pow_right (by decide) (by rw [List.length_take]; omega)
  have h3 : 256 ^ 7 = 72057594037927936 := by decide
  rw [h3] at h2
  exact Nat.lt_of_lt_of_le h1 h2

theorem u64_and255 {x : Int} (h0 : 0 ≤ x) (h1 : x < 18446744073709551616) : Go.bits .and .u64 x 255 = x % 256 := Go.bits_mask .u64 64 (by decide) wraps_u64 8 (by decide) x h0 h1
theorem set_rep (m : Nat) (c : Int) (suf : List Int) : (List.replicate (m + 1) (0 : Int) ++ suf).set m c = List.replicate m 0 ++ c :: suf := by
  rw [List.replicate_succ', List.append_assoc, List.set_append_right _ _ (by simp)]
  simp
theorem code_Fixed_l0 (m : Nat) : ∀ (k q : Nat) (suf : List Int), q < 18446744073709551616 → m ≤ 8 → m + 1 ≤ k →
    code_Fixed.l0 k (q : Int) (List.replicate m 0 ++ suf) ((m : Int) - 1) = some (fixEnc q m ++ suf) := by
  induction m with
  | zero =>
    intro k q suf hq hm hk
    obtain ⟨k, rfl⟩ : ∃ m, k = m + 1 := ⟨k - 1, by omega⟩
    simp only [code_Fixed.l0]
    rw [if_neg (by omega)]; rfl
  | succ m ih =>
    intro k q suf hq hm hk
    obtain ⟨k, rfl⟩ : ∃ m, k = m + 1 := ⟨k - 1, by omega⟩
    simp only [code_Fixed.l0]
    have hlen : (List.replicate (m + 1) (0 : Int) ++ suf).length = m + 1 + suf.length := by simp
    rw [if_pos (by omega), if_pos (by omega), if_pos (by rw [hlen]; omega)]
    rw [show (((m + 1 : Nat) : Int) - 1) = (m : Int) by omega, wrap64_id (by omega) (by omega), Int.toNat_natCast, set_rep, u64_and255 (by omega) (by omega)]
    rw [show ((q : Int) % 256 % 256) = ((q % 256 : Nat) : Int) by omega, show ((q : Int) / 256) = ((q / 256 : Nat) : Int) by omega]
    rw [ih k (q / 256) (((q % 256 : Nat) : Int) :: suf) (by omega) (by omega) (by omega)]
    simp [fixEnc]
theorem code_Fixed_ev (n s : Int) (h0 : 0 ≤ n) (h1 : n < 18446744073709551616) : Ev (fun k => code_Fixed.f k n s) (fx n s) := by
  refine ⟨20, fun k hk => ?_⟩
  obtain ⟨k, rfl⟩ : ∃ m, k = m + 1 := ⟨k - 1, by omega⟩
  show code_Fixed.f (k + 1) n s = _
  unfold code_Fixed.f fx
  by_cases c1 : s < 1
  · rw [if_pos c1, if_neg (by omega)]
    simp only [code_Fixed.j0]; rw [if_pos trivial]
  · rw [if_neg c1]
    by_cases c2 : s > 8
    · rw [decide_eq_true c2, if_neg (by omega)]
      simp only [code_Fixed.j0]; rw [if_pos trivial]
    · rw [decide_eq_false c2, if_pos (by omega)]
      simp only [code_Fixed.j0]
      rw [if_neg (by decide), if_pos (by omega), if_pos (by omega), wrap64_id (by omega) (by omega)]
      have := code_Fixed_l0 s.toNat k n.toNat [] (by omega) (by omega) (by omega)
      rw [List.append_nil, List.append_nil, Int.toNat_of_nonneg h0, Int.toNat_of_nonneg (by omega : 0 ≤ s)] at this
      exact this

theorem take_fix_step {v : Nat} {c : Int} (hv : v < 72057594037927936) (c0 : 0 ≤ c) (c1 : c < 256) : Go.bits .or .u64 (IntKind.u64.wrap ((v : Int) * 256)) (IntKind.u64.wrap c) = ((v * 256 + c.toNat : Nat) : Int) := by
  rw [wu64, wu64, show (v : Int) * 256 % 18446744073709551616 = (v : Int) * 256 by omega, show c % 18446744073709551616 = c by omega]
  rw [u64_join 8 (by omega) (by omega) (by omega) c0 (by omega) (by omega)]
  omega
theorem code_TakeFixed_l0 (l : List Int) (hb : Byt l) (hl : l.length ≤ 140737488351232) (s : Nat) (hs : s ≤ 8) (hsl : s ≤ l.length) (d : Nat) : ∀ (i k : Nat), s - i = d → i ≤ s → d + 1 ≤ k →
    code_TakeFixed.l0 k l (s : Int) (fixVal (l.take i) : Int) (l.take s) ((l.take s).length : Int) (i : Int) = some ((fixVal (l.take s) : Int), l.drop s, true) := by
  have hlen : (l.take s).length = s := by rw [List.length_take]; omega
  induction d with
  | zero =>
    intro i k hd hi hk
    obtain ⟨k, rfl⟩ : ∃ m, k = m + 1 := ⟨k - 1, by omega⟩
    obtain rfl : i = s := by omega
    simp only [code_TakeFixed.l0]
    rw [if_neg (by omega), behind_at l i hsl hl]; rfl
  | succ d ih =>
    intro i k hd hi hk
    obtain ⟨k, rfl⟩ : ∃ m, k = m + 1 := ⟨k - 1, by omega⟩
    simp only [code_TakeFixed.l0]
    rw [if_pos (by omega), if_pos (by omega), if_pos (by omega)]
    have hr : rd (l.take s) (i : Int) = rd l (i : Int) := by rw [rd_nat, rd_nat, List.getD_eq_getElem?_getD, List.getD_eq_getElem?_getD, List.getElem?_take_of_lt (by omega)]
    obtain ⟨c0, c1⟩ := hb.rd (i : Int)
    rw [hr, take_fix_step (fixVal_small7 hb (by omega)) c0 c1, wrap64_id (by omega) (by omega), ← fixVal_step hb (by omega)]
    exact ih (i + 1) k (by omega) (by omega) (by omega)
theorem code_TakeFixed_ev (l : List Int) (s : Int) (hb : Byt l) (hl : l.length ≤ 140737488351232) : Ev (fun k => code_TakeFixed.f k l s) (tf l s) := by
  refine ⟨20, fun k hk => ?_⟩
  obtain ⟨k, rfl⟩ : ∃ m, k = m + 1 := ⟨k - 1, by omega⟩
  show code_TakeFixed.f (k + 1) l s = _
  unfold code_TakeFixed.f tf
  by_cases c1 : s < 1
  · rw [if_pos c1, if_neg (by omega)]
    simp only [code_TakeFixed.j0]; rw [if_pos trivial]
  · rw [if_neg c1]
    by_cases c2 : s > 8
    · rw [if_pos c2, if_neg (by omega)]
      simp only [code_TakeFixed.j0]; rw [if_pos trivial]
    · rw [if_neg c2]
      by_cases c3 : (l.length : Int) < s
      · rw [decide_eq_true c3, if_neg (by omega)]
        simp only [code_TakeFixed.j0]; rw [if_pos trivial]
      · rw [decide_eq_false c3, if_pos (by omega)]
        simp only [code_TakeFixed.j0]
        rw [if_neg (by decide), if_pos (by omega), if_pos (by omega)]
        have := code_TakeFixed_l0 l hb hl s.toNat (by omega) (by omega) s.toNat 0 k (by omega) (by omega) (by omega)
        rw [Int.toNat_of_nonneg (by omega : 0 ≤ s)] at this
        exact this

theorem fixVal_enc (s : Nat) : ∀ n, n < 256 ^ s → fixVal (fixEnc n s) = n := by
  induction s with
  | zero => intro n h; simp at h; subst h; rfl
  | succ s ih =>
    intro n h
    rw [fixEnc, fixVal_snoc, ih (n / 256) (by rw [Nat.pow_succ] at h; exact Nat.div_lt_of_lt_mul (by omega))]
    omega

theorem awake02 : Ev (fun k => lienlaw02_awake.f k) true := Ev.of (fun k => lienlaw02_awake.mono k) (k := 20) (by kernel_rfl)

theorem cut_some (l : List Int) : ∃ t, lienlaw02_cut.f l = some t ∧ t.length ≤ l.length ∧ (∀ x ∈ t, x ∈ l) := by
  unfold lienlaw02_cut.f
  split
  · rw [if_pos (by omega)]
    exact ⟨_, rfl, by rw [List.length_take]; omega, fun x hx => List.mem_of_mem_take hx⟩
  · exact ⟨l, rfl, Nat.le_refl _, fun x hx => hx⟩
theorem cut_small (l t : List Int) (h : lienlaw02_cut.f l = some t) : t.length ≤ 8192 := by
  unfold lienlaw02_cut.f at h
  split at h
  · split at h
    · cases h; rw [List.length_take]; omega
    · cases h
  · cases h; omega

theorem back_j0 (l : List ByteArray) : Ev (fun k => lienlaw02_CodeBack.j0 k (rowsOf l) false) true := by
  refine Ev.step (f := fun k => ((code_Key.f k (rowsOf l)).bind fun bt240 => ((code_Parts.f k bt240.1).bind fun bt242 => (if ((rowsOf l).length : Int) > 8 then (if bt240.2 = 3 then ((lienlaw02_awake.f k).bind fun t246 => (some t246)) else (some false)) else (if bt240.2 = 0 then (if bt242.2 = 0 then ((lienlaw02_same.f k bt242.1 (rowsOf l)).bind fun t247 => (if t247 = true then ((lienlaw02_awake.f k).bind fun t248 => (some t248)) else (some false))) else (some false)) else (some false)))))) (fun k => by rw [lienlaw02_CodeBack.j0, if_neg (by decide)]) ?_
  have s0 := fun p hp => Nat.le_trans (rowsOf_small l p hp) (show 4096 ≤ 140737488351232 by decide)
  have k0 := rows_key l
  have k1 := keyI_len (rowsOf l) (rowsOf_small l)
  have n0 := rowsOf_len l
  generalize rowsOf l = ps at *
  refine Ev.bind (code_Key_ev ps s0 k0) ?_
  by_cases h : ps.length ≤ 8
  · rw [if_pos h]
    have k2 : (keyI ps).length ≤ 65552 := Nat.le_trans k1 (Nat.mul_le_mul_right 8194 h)
    refine Ev.bind (code_Parts_ev (strOfNums (keyI ps)) (by rw [nums_size]; omega)) ?_
    have hbk : Byt (keyI ps) := by
      intro x hx
      unfold keyI at hx
      obtain ⟨p, _, hx⟩ := List.mem_flatMap.mp hx
      rw [encI] at hx
      rcases List.mem_append.mp hx with hx | hx
      · obtain ⟨c, hc, hx⟩ := List.mem_flatMap.mp hx
        have := strs_byt p c hc
        rw [escI] at hx
        split at hx <;> simp at hx <;> omega
      · simp at hx; omega
    unfold partsOf
    have h9 : ¬ (ps.length : Int) > 8 := by omega
    rw [bytesOf_nums hbk, decI_key, List.nil_append]
    simp only [if_neg h9, if_true]
    refine Ev.bind (same_ev ps ps rfl (by omega)) ?_
    simp only [if_true]
    exact Ev.bind awake02 (Ev.now true)
  · rw [if_neg h]
    refine Ev.bind (code_Parts_ev (⟨#[]⟩ : ByteArray) (by decide)) ?_
    have h9 : (ps.length : Int) > 8 := by omega
    simp only [if_pos h9, if_true]
    exact Ev.bind awake02 (Ev.now true)
theorem CodeBack : lienlaw02_CodeBack.Pure := by
  intro n s0 ps l hn hs _ hl
  obtain ⟨hl, _, hb⟩ := hl
  obtain ⟨h0, h1⟩ := wf_u64 hn
  obtain ⟨t, ht, htl, htm⟩ := cut_some l
  have hbt : Byt t := fun x hx => wf_u8 (hb x (htm x hx))
  have htl2 : t.length ≤ 140737488351232 := by omega
  have hts := cut_small l t ht
  have hsv := short_val s0
  have hss := shortB_size s0
  generalize shortB s0 = s at hsv hss
  refine Ev.rounds ?_
  unfold lienlaw02_CodeBack.f
  refine Ev.bind (g := fun _ => lienlaw02_short.f s0) (a := s) (hsv ▸ Ev.now s) ?_
  refine Ev.bind (rows_ev ps) ?_
  refine Ev.bind (g := fun _ => lienlaw02_cut.f l) (a := t) (ht ▸ Ev.now t) ?_
  refine Ev.bind (code_Num_ev n h0 h1) ?_
  have h10 := len10 (n := n.toNat) (by omega)
  have hx1 : (numEnc n.toNat).length + t.length < 140737488355328 := by omega
  simp only [if_pos hx1]
  have hb1 : Byt (numEnc n.toNat ++ t) := fun x hx => (List.mem_append.mp hx).elim (numEnc_byt _ x) (hbt x)
  refine Ev.bind (code_TakeNum_ev _ hb1 (by rw [List.length_append]; omega)) ?_
  rw [decRes00, enc_dec n.toNat 0 t (by show n.toNat < 18446744073709551616; omega) (by omega) (by omega)]
  refine Ev.bind (code_Text_ev s (by omega)) ?_
  have h11 := len10 (n := s.size) (by omega)
  have hx2 : (numEnc s.size ++ bytesOf s).length + t.length < 140737488355328 := by rw [List.length_append, bytesOf_length]; omega
  simp only [if_pos hx2]
  have hb2 : Byt (numEnc s.size ++ bytesOf s ++ t) := fun x hx => (List.mem_append.mp hx).elim (fun hx => (List.mem_append.mp hx).elim (numEnc_byt _ x) (strs_byt s x)) (hbt x)
  refine Ev.bind (code_TakeText_ev _ (s.size : Int) hb2 (by rw [List.length_append, List.length_append, bytesOf_length]; omega) (by omega) (by omega)) ?_
  rw [List.append_assoc, enc_dec s.size 0 _ (by show s.size < 18446744073709551616; omega) (by omega) (by omega)]
  simp only [ttOf]
  have hx3 : ¬ ((s.size : Int) < 0 ∨ (s.size : Int) > (s.size : Int) ∨ (bytesOf s ++ t).length < s.size) := by rw [List.length_append, bytesOf_length]; omega
  simp only [if_neg hx3]
  have e1 : (bytesOf s ++ t).take s.size = bytesOf s := by rw [List.take_append_of_le_length (by rw [bytesOf_length]; omega), List.take_of_length_le (by rw [bytesOf_length]; omega)]
  have e2 : (bytesOf s ++ t).drop s.size = t := by rw [List.drop_append_of_le_length (by rw [bytesOf_length]; omega), List.drop_eq_nil_of_le (by rw [bytesOf_length]; omega)]; rfl
  rw [e1, e2, nums_bytesOf]
  refine Ev.bind (code_Fixed_ev n 8 h0 h1) ?_
  have ef : fx n 8 = fixEnc n.toNat 8 := by rw [fx, if_pos (by decide)]; rfl
  have el := fixEnc_len 8 n.toNat
  have hx4 : (fixEnc n.toNat 8).length + t.length < 140737488355328 := by omega
  rw [ef]
  simp only [if_pos hx4]
  have hb3 : Byt (fixEnc n.toNat 8 ++ t) := fun x hx => (List.mem_append.mp hx).elim (fixEnc_byt _ _ x) (hbt x)
  refine Ev.bind (code_TakeFixed_ev _ 8 hb3 (by rw [List.length_append]; omega)) ?_
  have e3 : tf (fixEnc n.toNat 8 ++ t) 8 = (n, t, true) := by
    rw [tf, if_pos (by refine ⟨by decide, by decide, ?_⟩; rw [List.length_append]; omega)]
    rw [show (8 : Int).toNat = 8 from rfl, List.take_append_of_le_length (by omega), List.take_of_length_le (by omega), List.drop_append_of_le_length (by omega), List.drop_eq_nil_of_le (by omega)]
    rw [fixVal_enc 8 n.toNat (by show n.toNat < 18446744073709551616; omega), Int.toNat_of_nonneg h0]; rfl
  rw [e3]
  simp only [if_true, bne_self_eq_false]
  simp only [if_pos (Int.toNat_of_nonneg h0)]
  exact back_j0 ps

end Go.Proofs.Ytlehgphnjpgjnab.Pure
