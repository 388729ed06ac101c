/- Written for the statement WireOnly over the program's printed functions: numbers and lists alone. -/
import Derived.Test.YtklnnmgfoebbhaaPWireOnlyx
set_option linter.unusedVariables false
set_option linter.unusedSimpArgs false
namespace Go.Proofs.Ytklnnmgfoebbhaa.Pure
open Go.RowKit Go.Proofs.Ytklnnmgfoebbhaa.PWireOnly Go.Proofs.YtklnnmgfoebbhaaW Go.Proofs.YtklnnmgfoebbhaaW.PrintWords Go.Proofs.YtklnnmgfoebbhaaW.PrintLast Go.Proofs.YtklnnmgfoebbhaaW.PrintMore

theorem wrap64_id {x : Int} (h0 : -9223372036854775808 ≤ x) (h1 : x ≤ 9223372036854775807) : wrap64 x = x := by unfold wrap64; omega
theorem wu64 (n : Int) : IntKind.u64.wrap n = n % 18446744073709551616 := by simp [IntKind.wrap, IntKind.bits, IntKind.signed]
theorem wraps_u64 (n : Int) (h0 : 0 ≤ n) (h1 : n < 2 ^ 64) : IntKind.u64.wrap n = n := by rw [wu64]; omega
theorem u64_and127 {x : Int} (h0 : 0 ≤ x) (h1 : x < 18446744073709551616) : Go.bits .and .u64 x 127 = x % 128 := Go.bits_mask .u64 64 (by decide) wraps_u64 7 (by decide) x h0 h1
theorem u8_and127 {x : Int} (h0 : 0 ≤ x) (h1 : x < 256) : Go.bits .and .u8 x 127 = x % 128 := Go.bits_mask .u8 8 (by decide) Go.wraps_u8 7 (by decide) x h0 h1
theorem bits_comm_or (k : IntKind) (x y : Int) : Go.bits .or k x y = Go.bits .or k y x := by simp [Go.bits, BitVec.or_comm]
theorem u8_or_128 {x : Int} (h0 : 0 ≤ x) (h1 : x < 128) : Go.bits .or .u8 x 128 = x + 128 := by
  rw [bits_comm_or, Go.bits_join .u8 8 (by decide) Go.wraps_u8 7 128 x (by decide) (by decide) (by decide) h0 h1 (by omega)]; omega
theorem u64_join (i : Nat) {x y : Int} (hx0 : 0 ≤ x) (hx : x % 2 ^ i = 0) (hx1 : x < 18446744073709551616) (hy0 : 0 ≤ y) (hy : y < 2 ^ i) (hy1 : y < 18446744073709551616) : Go.bits .or .u64 x y = x + y :=
  Go.bits_join .u64 64 (by decide) wraps_u64 i x y hx0 hx hx1 hy0 hy hy1
theorem wf_u64 {x : Int} (h : (Lit.int .u64 x).wf = true) : 0 ≤ x ∧ x < 18446744073709551616 := by
  simp [Lit.wf, IntKind.min, IntKind.max, IntKind.bits, IntKind.signed] at h; omega
theorem wf_u8 {x : Int} (h : (Lit.int .u8 x).wf = true) : 0 ≤ x ∧ x < 256 := by
  simp [Lit.wf, IntKind.min, IntKind.max, IntKind.bits, IntKind.signed] at h; omega
theorem wf_i64 {x : Int} (h : (Lit.int .i64 x).wf = true) : -9223372036854775808 ≤ x ∧ x ≤ 9223372036854775807 := by
  simp [Lit.wf, IntKind.min, IntKind.max, IntKind.bits, IntKind.signed] at h; omega
def Byt (l : List Int) : Prop := ∀ x ∈ l, 0 ≤ x ∧ x < 256
theorem Byt.of_wf {l : List Int} (h : ∀ x ∈ l, (Lit.int .u8 x).wf = true) : Byt l := fun x hx => wf_u8 (h x hx)
theorem Byt.rd {l : List Int} (h : Byt l) (i : Int) : 0 ≤ rd l i ∧ rd l i < 256 := by
  unfold PrintWords.rd
  rw [List.getD_eq_getElem?_getD]
  cases e : l[i.toNat]? with
  | none => simp
  | some x => exact h x (List.mem_of_getElem? e)
theorem Byt.take {l : List Int} (h : Byt l) (n : Nat) : Byt (l.take n) := fun x hx => h x (List.mem_of_mem_take hx)
theorem Byt.drop {l : List Int} (h : Byt l) (n : Nat) : Byt (l.drop n) := fun x hx => h x (List.mem_of_mem_drop hx)
theorem rd_nat (l : List Int) (i : Nat) : rd l (i : Int) = l.getD i 0 := by unfold PrintWords.rd; simp
theorem rd_drop {l : List Int} {i : Nat} (h : i < l.length) : l.drop i = rd l (i : Int) :: l.drop (i + 1) := by
  rw [rd_nat, List.drop_eq_getElem_cons h]; simp [List.getD_eq_getElem?_getD, List.getElem?_eq_getElem h]

def numEnc (n : Nat) : List Int := if n < 128 then [(n : Int)] else ((n % 128 + 128 : Nat) : Int) :: numEnc (n / 128)
theorem numEnc_lt {n : Nat} (h : n < 128) : numEnc n = [(n : Int)] := by rw [numEnc, if_pos h]
theorem numEnc_ge {n : Nat} (h : ¬ n < 128) : numEnc n = ((n % 128 + 128 : Nat) : Int) :: numEnc (n / 128) := by rw [numEnc, if_neg h]
theorem numEnc_byt (n : Nat) : Byt (numEnc n) := by
  induction n using Nat.strongRecOn with
  | _ n ih =>
    by_cases h : n < 128
    · rw [numEnc_lt h]; intro x hx; simp at hx; omega
    · rw [numEnc_ge h]; intro x hx
      rcases List.mem_cons.mp hx with rfl | hx
      · omega
      · exact ih (n / 128) (by omega) x hx
theorem numEnc_len (n : Nat) : ∀ d, n < 128 ^ (d + 1) → (numEnc n).length ≤ d + 1 := by
  induction n using Nat.strongRecOn with
  | _ n ih =>
    intro d hd
    by_cases h : n < 128
    · rw [numEnc_lt h]; simp
    · rw [numEnc_ge h]
      cases d with
      | zero => omega
      | succ d =>
        have := ih (n / 128) (by omega) d (by rw [Nat.pow_succ] at hd; exact Nat.div_lt_of_lt_mul (by omega))
        simp; omega
theorem numEnc_pos (n : Nat) : 0 < (numEnc n).length := by
  by_cases h : n < 128
  · rw [numEnc_lt h]; simp
  · rw [numEnc_ge h]; simp

theorem bl_eq (s : ByteArray) : s.toList = s.data.toList := ByteArray.toList_eq s
theorem ba_ext {a b : ByteArray} (h : a.toList = b.toList) : a = b := by
  rw [bl_eq, bl_eq] at h
  exact ByteArray.ext (Array.toList_inj.mp h)
theorem bl_len (s : ByteArray) : s.toList.length = s.size := by rw [bl_eq, Array.length_toList]; rfl
theorem bl_append (a b : ByteArray) : (a ++ b).toList = a.toList ++ b.toList := by rw [bl_eq, bl_eq, bl_eq, ByteArray.data_append, Array.toList_append]
theorem bl_extract (a : ByteArray) (i j : Nat) : (a.extract i j).toList = (a.toList.take j).drop i := by
  rw [bl_eq, bl_eq, ByteArray.data_extract, Array.toList_extract, List.extract_eq_take_drop, List.drop_take]
theorem bl_nums (xs : List Int) : (strOfNums xs).toList = xs.map fun n => UInt8.ofNat n.toNat := by rw [bl_eq]; rfl
theorem bt_nat (s : ByteArray) (i : Nat) (h : i < s.size) : bt s (i : Int) = ((s.toList[i]'(by rw [bl_len]; exact h)).toNat : Int) := by
  unfold PrintWords.bt
  rw [dif_pos (by simpa using h)]
  simp only [Int.toNat_natCast, bl_eq]
  rfl
theorem bl_bytesOf (s : ByteArray) : bytesOf s = s.toList.map fun b => (b.toNat : Int) := by unfold PrintWords.bytesOf; rw [bl_eq]
theorem less_app (p x y : List UInt8) : Op.bytesLess (p ++ x) (p ++ y) = Op.bytesLess x y := by
  induction p with
  | nil => rfl
  | cons c t ih => simp [Op.bytesLess, ih, UInt8.lt_irrefl]
theorem less_next {c d : UInt8} (h : c.toNat < d.toNat) (x y : List UInt8) : Op.bytesLess (c :: x) (d :: y) = true := by
  simp only [Op.bytesLess]
  rw [decide_eq_true (UInt8.lt_iff_toNat_lt.mpr h)]
  rfl

theorem code_Num_l0 (n : Nat) : ∀ (k : Nat) (acc : List Int), n < 18446744073709551616 → (numEnc n).length ≤ k → acc.length + (numEnc n).length < 140737488355328 → code_Num.l0 k (n : Int) acc = some (acc ++ numEnc n) := by
  induction n using Nat.strongRecOn with
  | _ n ih =>
    intro k acc hn hk hl
    have hp := numEnc_pos n
    obtain ⟨k, rfl⟩ : ∃ m, k = m + 1 := ⟨k - 1, by omega⟩
    by_cases h : n < 128
    · rw [numEnc_lt h] at hl ⊢
      simp only [code_Num.l0]
      rw [if_neg (by omega), if_pos (by simp at hl; omega)]
      rw [show (n : Int) % 256 = n by omega]
    · rw [numEnc_ge h] at hl hk ⊢
      simp only [List.length_cons] at hl hk
      simp only [code_Num.l0]
      rw [if_pos (by omega), if_pos (by omega)]
      rw [u64_and127 (by omega) (by omega), u8_or_128 (by omega) (by omega)]
      have := ih (n / 128) (by omega) k (acc ++ [((n % 128 + 128 : Nat) : Int)]) (by omega) (by omega) (by simp; omega)
      rw [show ((n : Int) / 128) = ((n / 128 : Nat) : Int) by omega, show ((n : Int) % 128 % 256 + 128) = ((n % 128 + 128 : Nat) : Int) by omega, this]
      simp
theorem len10 {n : Nat} (h : n < 18446744073709551616) : (numEnc n).length ≤ 10 := numEnc_len n 9 (by omega)
theorem code_Num_ev (n : Int) (h0 : 0 ≤ n) (h1 : n < 18446744073709551616) : Ev (fun k => code_Num.f k n) (numEnc n.toNat) := by
  refine ⟨10, fun k hk => ?_⟩
  have hl := len10 (n := n.toNat) (by omega)
  have := code_Num_l0 n.toNat k [] (by omega) (by omega) (by simp; omega)
  rw [Int.toNat_of_nonneg h0] at this
  unfold code_Num.f; simpa using this

def dec : Nat → List Int → Option (Nat × List Int)
  | _, [] => none
  | i, c :: t => if 10 ≤ i ∨ (i = 9 ∧ c > 1) then none else if c < 128 then (if c = 0 ∧ 0 < i then none else some (c.toNat, t)) else (dec (i + 1) t).map fun p => ((c % 128).toNat + 128 * p.1, p.2)
def decRes (n i : Nat) : Option (Nat × List Int) → Int × List Int × Bool
  | none => (0, [], false)
  | some (v, r) => (((n + 2 ^ (7 * i) * v : Nat) : Int), r, true)
theorem dec_ten (l : List Int) (i : Nat) (h : 10 ≤ i) : dec i l = none := by
  cases l with
  | nil => rfl
  | cons c t => rw [dec, if_pos (.inl h)]
theorem pow7_succ (i : Nat) : 2 ^ (7 * (i + 1)) = 2 ^ (7 * i) * 128 := by rw [Nat.mul_add, Nat.pow_add]
theorem pow7_le {i : Nat} (h : i ≤ 9) : 2 ^ (7 * i) ≤ 9223372036854775808 := Nat.le_trans (Nat.pow_le_pow_right (by decide) (show 7 * i ≤ 63 by omega)) (by decide)
theorem pow7_le8 {i : Nat} (h : i ≤ 8) : 2 ^ (7 * i) ≤ 72057594037927936 := Nat.le_trans (Nat.pow_le_pow_right (by decide) (show 7 * i ≤ 56 by omega)) (by decide)
/-- The seven bits of one byte, put in their place. -/
theorem take_step {n i : Nat} {c : Int} (hn : n < 2 ^ (7 * i)) (hi : i ≤ 9) (h0 : 0 ≤ c) (h1 : c < 256) (h9 : i = 9 → c ≤ 1) :
    Go.bits .or .u64 (n : Int) (shl .u64 (IntKind.u64.wrap (Go.bits .and .u8 c 127)) (IntKind.u64.wrap (7 * (IntKind.u64.wrap (i : Int))))) = ((n + 2 ^ (7 * i) * (c % 128).toNat : Nat) : Int) := by
  rw [u8_and127 h0 h1, wu64 (c % 128), wu64 (i : Int), wu64 (7 * _)]
  rw [show c % 128 % 18446744073709551616 = c % 128 by omega, show (7 * ((i : Int) % 18446744073709551616)) % 18446744073709551616 = ((7 * i : Nat) : Int) by omega]
  unfold shl
  rw [Int.toNat_natCast, Nat.min_eq_left (by simp [IntKind.bits]; omega), wu64]
  obtain ⟨m, hm⟩ : ∃ m : Nat, c % 128 = (m : Int) := ⟨(c % 128).toNat, by omega⟩
  rw [hm, Int.toNat_natCast]
  have hp := pow7_le hi
  have hlt : 2 ^ (7 * i) * m < 18446744073709551616 := by
    by_cases e : i = 9
    · subst e
      have := h9 rfl
      have : m ≤ 1 := by omega
      have h2 : 2 ^ (7 * 9) * m ≤ 2 ^ (7 * 9) * 1 := Nat.mul_le_mul_left _ this
      omega
    · have h8 := pow7_le8 (i := i) (by omega)
      have : m ≤ 127 := by omega
      have h2 : 2 ^ (7 * i) * m ≤ 72057594037927936 * 127 := Nat.mul_le_mul h8 this
      omega
  have e1 : ((m : Int) * 2 ^ (7 * i)) = ((2 ^ (7 * i) * m : Nat) : Int) := by rw [Int.natCast_mul, Int.mul_comm, Int.natCast_pow]; rfl
  rw [e1, show (((2 ^ (7 * i) * m : Nat) : Int) % 18446744073709551616) = ((2 ^ (7 * i) * m : Nat) : Int) by omega, bits_comm_or]
  rw [u64_join (7 * i) (by omega) (by exact_mod_cast Nat.mul_mod_right _ _) (by omega) (by omega) (by exact_mod_cast hn) (by omega)]
  push_cast
  omega

theorem behind_at (l : List Int) (i : Nat) (h : i ≤ l.length) (hl : l.length ≤ 140737488351232) : code_behind.f l (i : Int) = some (l.drop i) := by
  unfold code_behind.f
  simp only [Option.bind_some]
  rw [if_pos (by omega), if_pos (by omega), if_pos (by simp; omega)]
  simp

theorem code_TakeNum_l0 (l : List Int) (hb : Byt l) (hl : l.length ≤ 140737488351232) (d : Nat) : ∀ (i k n : Nat), l.length - i = d → i ≤ l.length → i ≤ 10 → n < 2 ^ (7 * i) → 2 * d + 2 ≤ k →
    code_TakeNum.l0 k l (n : Int) l (l.length : Int) (i : Int) = some (decRes n i (dec i (l.drop i))) := by
  induction d with
  | zero =>
    intro i k n hd hi h10 hn hk
    obtain ⟨k, rfl⟩ : ∃ m, k = m + 1 := ⟨k - 1, by omega⟩
    simp only [code_TakeNum.l0]
    rw [if_neg (by omega), List.drop_eq_nil_of_le (by omega)]; rfl
  | succ d ih =>
    intro i k n hd hi h10 hn hk
    obtain ⟨k, rfl⟩ : ∃ m, k = m + 1 + 1 := ⟨k - 2, by omega⟩
    have hlt : i < l.length := by omega
    obtain ⟨c0, c1⟩ := hb.rd (i : Int)
    rw [rd_drop hlt]
    simp only [code_TakeNum.l0]
    rw [if_pos (by omega), if_pos (by omega), if_pos (by omega)]
    generalize hc : rd l (i : Int) = c at c0 c1 ⊢
    by_cases bad : 10 ≤ i ∨ (i = 9 ∧ c > 1)
    · rw [dec, if_pos bad]
      rcases bad with bad | ⟨e, bad⟩
      · rw [if_neg (by omega), decide_eq_true (by omega)]
        simp only [code_TakeNum.j1]; rfl
      · rw [if_pos (by omega), if_pos bad]
        simp only [code_TakeNum.j1]; rfl
    · have h9 : i ≤ 9 := by omega
      have hc1 : i = 9 → c ≤ 1 := by omega
      have e : (if (i : Int) = 9 then (if c > 1 then (code_TakeNum.j1 (k + 1) l (n : Int) (i : Int) c l (l.length : Int) (i : Int) true) else (code_TakeNum.j1 (k + 1) l (n : Int) (i : Int) c l (l.length : Int) (i : Int) (decide ((i : Int) > 9)))) else (code_TakeNum.j1 (k + 1) l (n : Int) (i : Int) c l (l.length : Int) (i : Int) (decide ((i : Int) > 9)))) = code_TakeNum.j1 (k + 1) l (n : Int) (i : Int) c l (l.length : Int) (i : Int) false := by
        rw [decide_eq_false (by omega : ¬ (i : Int) > 9)]
        split
        · rw [if_neg (by omega)]
        · rfl
      rw [e, dec, if_neg bad]
      clear e
      simp only [code_TakeNum.j1]
      rw [if_neg (by decide), if_pos (by rw [wu64]; omega), take_step hn h9 c0 c1 hc1, wrap64_id (x := (i : Int) + 1) (by omega) (by omega)]
      by_cases h128 : c < 128
      · rw [if_pos h128, if_pos h128]
        rw [show ((i : Int) + 1) = ((i + 1 : Nat) : Int) by omega, behind_at l (i + 1) (by omega) hl]
        simp only [Option.bind_some]
        have hv : (c % 128).toNat = c.toNat := by rw [show c % 128 = c by omega]
        rw [hv]
        by_cases hz : c = 0
        · rw [if_pos hz]
          by_cases hi0 : 0 < i
          · rw [if_pos (by omega), if_pos ⟨hz, hi0⟩]; rfl
          · rw [if_neg (by omega), if_neg (by omega)]; rfl
        · rw [if_neg hz, if_neg (by omega)]; rfl
      · rw [if_neg h128, if_neg h128]
        rw [show ((i : Int) + 1) = ((i + 1 : Nat) : Int) by omega]
        have hm : (c % 128).toNat < 128 := by omega
        have hlt2 : n + 2 ^ (7 * i) * (c % 128).toNat < 2 ^ (7 * (i + 1)) := by
          rw [pow7_succ]
          have := Nat.mul_le_mul_left (2 ^ (7 * i)) (show (c % 128).toNat + 1 ≤ 128 by omega)
          rw [Nat.mul_add] at this
          omega
        rw [ih (i + 1) k _ (by omega) (by omega) (by omega) hlt2 (by omega)]
        congr 1
        cases dec (i + 1) (l.drop (i + 1)) with
        | none => rfl
        | some p =>
          obtain ⟨v, r⟩ := p
          simp only [decRes, Option.map_some]
          congr 2
          rw [pow7_succ, Nat.mul_add, Nat.add_assoc, Nat.mul_assoc]
theorem code_TakeNum_ev (l : List Int) (hb : Byt l) (hl : l.length ≤ 140737488351232) : Ev (fun k => code_TakeNum.f k l) (decRes 0 0 (dec 0 l)) := by
  refine ⟨2 * l.length + 2, fun k hk => ?_⟩
  unfold code_TakeNum.f
  have := code_TakeNum_l0 l hb hl l.length 0 k 0 (by omega) (by omega) (by omega) (by omega) (by omega)
  simpa using this

theorem dec_suf (l : List Int) : ∀ (i v : Nat) (r : List Int), dec i l = some (v, r) → r.length ≤ l.length ∧ (∀ x ∈ r, x ∈ l) := by
  induction l with
  | nil => intro i v r h; simp [dec] at h
  | cons c t ih =>
    intro i v r h
    rw [dec] at h
    split at h
    · cases h
    · split at h
      · split at h
        · cases h
        · simp only [Option.some.injEq, Prod.mk.injEq] at h
          obtain ⟨_, rfl⟩ := h
          exact ⟨by simp, fun x hx => List.mem_cons_of_mem _ hx⟩
      · rw [Option.map_eq_some_iff] at h
        obtain ⟨⟨v2, r2⟩, h1, h2⟩ := h
        simp only [Prod.mk.injEq] at h2
        obtain ⟨_, rfl⟩ := h2
        obtain ⟨a, b⟩ := ih (i + 1) v2 r2 h1
        exact ⟨by simp; omega, fun x hx => List.mem_cons_of_mem _ (b x hx)⟩
def ttOf (most : Int) : Option (Nat × List Int) → ByteArray × List Int × Bool
  | none => (⟨#[]⟩, [], false)
  | some (n, r) => if most < 0 ∨ (n : Int) > most ∨ r.length < n then (⟨#[]⟩, [], false) else (strOfNums (r.take n), r.drop n, true)
theorem decRes00 (d : Option (Nat × List Int)) : decRes 0 0 d = match d with | none => (0, [], false) | some (v, r) => ((v : Int), r, true) := by
  cases d with
  | none => rfl
  | some p => obtain ⟨v, r⟩ := p; simp [decRes]
theorem bytesOf_byt (s : ByteArray) : Byt (bytesOf s) := by
  intro x hx
  unfold PrintWords.bytesOf at hx
  obtain ⟨b, _, rfl⟩ := List.mem_map.mp hx
  have := b.toNat_lt
  omega

theorem code_TakeText_ev (l : List Int) (most : Int) (hb : Byt l) (hl : l.length ≤ 140737488351232) (hm0 : -9223372036854775808 ≤ most) (hm1 : most ≤ 9223372036854775807) : Ev (fun k => code_TakeText.f k l most) (ttOf most (dec 0 l)) := by
  unfold code_TakeText.f
  refine Ev.bind (code_TakeNum_ev l hb hl) ?_
  rw [decRes00]
  cases hd : dec 0 l with
  | none => exact Ev.now _
  | some p =>
    obtain ⟨n, r⟩ := p
    obtain ⟨hr, _⟩ := dec_suf l 0 n r hd
    simp only [ttOf]
    rw [if_pos trivial]
    by_cases c1 : most < 0
    · rw [if_pos c1, if_pos (.inl c1)]; exact Ev.now _
    · rw [if_neg c1]
      have e1 : IntKind.u64.wrap most = most := by rw [wu64]; omega
      have e2 : IntKind.u64.wrap (r.length : Int) = (r.length : Int) := by rw [wu64]; omega
      rw [e1, e2]
      by_cases c2 : (n : Int) > most
      · rw [if_pos c2, if_pos (.inr (.inl c2))]; exact Ev.now _
      · rw [if_neg c2]
        by_cases c3 : r.length < n
        · rw [if_pos (show (n : Int) > (r.length : Int) by omega), if_pos (.inr (.inr c3))]; exact Ev.now _
        · rw [if_neg (show ¬ ((n : Int) > (r.length : Int)) by omega), if_pos (show (0 : Int) ≤ (n : Int) by omega), if_pos (show (n : Int) ≤ (r.length : Int) by omega), if_neg (show ¬ (most < 0 ∨ (n : Int) > most ∨ r.length < n) by omega), wrap64_id (by omega) (by omega), behind_at r n (by omega) (by omega), Option.bind_some, Int.toNat_natCast]
          exact Ev.now _
theorem code_Text_ev (s : ByteArray) (hs : s.size ≤ 140737488351232) : Ev (fun k => code_Text.f k s) (numEnc s.size ++ bytesOf s) := by
  unfold code_Text.f
  have e : IntKind.u64.wrap (s.size : Int) = (s.size : Int) := by rw [wu64]; omega
  rw [e]
  refine Ev.bind (code_Num_ev (s.size : Int) (by omega) (by omega)) ?_
  have := len10 (n := s.size) (by omega)
  rw [Int.toNat_natCast, if_pos (by omega)]
  exact Ev.now _

theorem byt_back {xs : List Int} (h : Byt xs) : (xs.map fun n => ((UInt8.ofNat n.toNat).toNat : Int)) = xs := by
  induction xs with
  | nil => rfl
  | cons c t ih =>
    have hc := h c (List.mem_cons_self ..)
    rw [List.map_cons, ih (fun x hx => h x (List.mem_cons_of_mem _ hx)), UInt8.toNat_ofNat']
    congr 1
    omega
theorem bytesOf_nums {xs : List Int} (h : Byt xs) : bytesOf (strOfNums xs) = xs := by
  rw [bl_bytesOf, bl_nums, List.map_map]
  exact byt_back h
theorem nums_bytesOf (s : ByteArray) : strOfNums (bytesOf s) = s := by
  apply ba_ext
  rw [bl_nums, bl_bytesOf, List.map_map]
  conv => rhs; rw [← List.map_id s.toList]
  apply List.map_congr_left
  intro b _
  simp
theorem nums_size (xs : List Int) : (strOfNums xs).size = xs.length := by rw [← bl_len, bl_nums, List.length_map]
theorem strs_byt (s : ByteArray) : Byt (bytesOf s) := by
  intro x hx
  rw [bl_bytesOf] at hx
  obtain ⟨b, _, rfl⟩ := List.mem_map.mp hx
  have := b.toNat_lt
  omega

theorem pow64 {i : Nat} (h : i ≤ 8) : 2 ^ (64 - 7 * i) = 128 * 2 ^ (64 - 7 * (i + 1)) := by
  rw [show 64 - 7 * i = 7 + (64 - 7 * (i + 1)) by omega, Nat.pow_add]
theorem pow64_ge {i : Nat} (h : i ≤ 8) : 256 ≤ 2 ^ (64 - 7 * i) := Nat.le_trans (show 256 ≤ 2 ^ 8 by decide) (Nat.pow_le_pow_right (by decide) (by omega))
theorem dec_enc (l : List Int) (hb : Byt l) : ∀ (i v : Nat) (r : List Int), dec i l = some (v, r) → numEnc v ++ r = l ∧ v < 2 ^ (64 - 7 * i) ∧ (0 < i → 0 < v) := by
  induction l with
  | nil => intro i v r h; simp [dec] at h
  | cons c t ih =>
    intro i v r h
    have hc := hb c (List.mem_cons_self ..)
    rw [dec] at h
    by_cases bad : 10 ≤ i ∨ (i = 9 ∧ c > 1)
    · rw [if_pos bad] at h; cases h
    · rw [if_neg bad] at h
      by_cases h1 : c < 128
      · rw [if_pos h1] at h
        by_cases h2 : c = 0 ∧ 0 < i
        · rw [if_pos h2] at h; cases h
        · rw [if_neg h2] at h
          simp only [Option.some.injEq, Prod.mk.injEq] at h
          obtain ⟨rfl, rfl⟩ := h
          refine ⟨?_, ?_, by omega⟩
          · rw [numEnc_lt (by omega), Int.toNat_of_nonneg hc.1]; rfl
          · by_cases h9 : i = 9
            · subst h9; have : (2 : Nat) ^ (64 - 7 * 9) = 2 := by decide
              omega
            · have := pow64_ge (i := i) (by omega)
              omega
      · rw [if_neg h1, Option.map_eq_some_iff] at h
        obtain ⟨⟨v2, r2⟩, h3, h2⟩ := h
        simp only [Prod.mk.injEq] at h2
        obtain ⟨rfl, rfl⟩ := h2
        obtain ⟨a, b, d⟩ := ih (fun x hx => hb x (List.mem_cons_of_mem _ hx)) (i + 1) v2 r2 h3
        have d := d (by omega)
        have hi : i ≤ 8 := by
          by_cases h9 : i = 9
          · omega
          · omega
        refine ⟨?_, ?_, by omega⟩
        · rw [numEnc_ge (by omega), show ((c % 128).toNat + 128 * v2) / 128 = v2 by omega, List.cons_append, a]
          congr 1
          omega
        · rw [pow64 hi]; omega
theorem enc_dec (n : Nat) : ∀ (i : Nat) (r : List Int), n < 2 ^ (64 - 7 * i) → i ≤ 9 → (0 < i → 0 < n) → dec i (numEnc n ++ r) = some (n, r) := by
  induction n using Nat.strongRecOn with
  | _ n ih =>
    intro i r hn hi hp
    by_cases h : n < 128
    · rw [numEnc_lt h, List.cons_append, dec, if_neg, if_pos (by omega), if_neg (by omega)]
      · simp
      · intro bad
        rcases bad with bad | ⟨rfl, bad⟩
        · omega
        · have : (2 : Nat) ^ (64 - 7 * 9) = 2 := by decide
          omega
    · have h9 : i ≠ 9 := by
        intro e; subst e
        have : (2 : Nat) ^ (64 - 7 * 9) = 2 := by decide
        omega
      rw [pow64 (by omega)] at hn
      rw [numEnc_ge h, List.cons_append, dec, if_neg (by omega), if_neg (by omega), ih (n / 128) (by omega) (i + 1) r (by omega) (by omega) (by omega), Option.map_some]
      congr 2
      omega

def fldOk : Int ⊕ ByteArray → Bool
  | .inl n => decide (0 ≤ n)
  | .inr s => decide ((s.size : Int) ≤ 4096)
def fldEnc : Int ⊕ ByteArray → List Int
  | .inl n => numEnc n.toNat
  | .inr s => numEnc s.size ++ bytesOf s
def wrP (l : List (Int ⊕ ByteArray)) (b : List Int) : Option (List Int) := if l.all fldOk = true then some (b ++ l.flatMap fldEnc) else none
/-- What a field's value may be here. -/
def FldB : Int ⊕ ByteArray → Prop
  | .inl n => n ≤ 9223372036854775807
  | .inr s => s.size ≤ 140737488351232
theorem wireWr_ev : ∀ (l : List (Int ⊕ ByteArray)) (b : List Int), (∀ f ∈ l, FldB f) → b.length + 5000 * l.length ≤ 140737488351232 → Ev (fun k => wireWr k l b) (wrP l b)
  | [], b, _, _ => by
    unfold wrP
    simp only [wireWr, List.all_nil, List.flatMap_nil, List.append_nil, if_true]
    exact Ev.now _
  | .inl n :: l, b, hl, hb => by
    have hn : n ≤ 9223372036854775807 := hl _ List.mem_cons_self
    simp only [List.length_cons] at hb
    simp only [wireWr]
    by_cases h0 : 0 ≤ n
    · simp only [if_pos h0]
      have e : IntKind.u64.wrap n = n := by rw [wu64]; omega
      rw [e]
      refine Ev.bind (code_Num_ev n h0 (by omega)) ?_
      have h10 := len10 (n := n.toNat) (by omega)
      have hlt : b.length + (numEnc n.toNat).length < 140737488355328 := by omega
      simp only [if_pos hlt]
      have ih := wireWr_ev l (b ++ numEnc n.toNat) (fun f hf => hl f (List.mem_cons_of_mem _ hf)) (by rw [List.length_append]; omega)
      have ew : wrP (.inl n :: l) b = wrP l (b ++ numEnc n.toNat) := by
        unfold wrP
        simp only [List.all_cons, fldOk, decide_eq_true h0, Bool.true_and, List.flatMap_cons, fldEnc, List.append_assoc]
      rw [ew]
      exact ih
    · simp only [if_neg h0]
      have ew : wrP (.inl n :: l) b = none := by
        unfold wrP
        simp only [List.all_cons, fldOk, decide_eq_false h0, Bool.false_and]
        rfl
      rw [ew]
      exact Ev.now _
  | .inr s :: l, b, hl, hb => by
    have hn : s.size ≤ 140737488351232 := hl _ List.mem_cons_self
    simp only [List.length_cons] at hb
    simp only [wireWr]
    by_cases h0 : (s.size : Int) ≤ 4096
    · simp only [if_pos h0]
      refine Ev.bind (code_Text_ev s hn) ?_
      have h10 := len10 (n := s.size) (by omega)
      have hbl := bytesOf_length s
      have hlt : b.length + (numEnc s.size ++ bytesOf s).length < 140737488355328 := by rw [List.length_append]; omega
      simp only [if_pos hlt]
      have ih := wireWr_ev l (b ++ (numEnc s.size ++ bytesOf s)) (fun f hf => hl f (List.mem_cons_of_mem _ hf)) (by rw [List.length_append, List.length_append]; omega)
      have ew : wrP (.inr s :: l) b = wrP l (b ++ (numEnc s.size ++ bytesOf s)) := by
        unfold wrP
        simp only [List.all_cons, fldOk, decide_eq_true h0, Bool.true_and, List.flatMap_cons, fldEnc, List.append_assoc]
      rw [ew]
      exact ih
    · simp only [if_neg h0]
      have ew : wrP (.inr s :: l) b = none := by
        unfold wrP
        simp only [List.all_cons, fldOk, decide_eq_false h0, Bool.false_and]
        rfl
      rw [ew]
      exact Ev.now _
/-- Fields taken out of bytes, and what stands behind them. -/
def rdQ : List Bool → List Int → List (Int ⊕ ByteArray) → Option (List (Int ⊕ ByteArray) × List Int)
  | [], b, acc => some (acc, b)
  | false :: l, b, acc => match dec 0 b with
    | none => none
    | some (n, r) => if (n : Int) ≤ 9223372036854775807 then rdQ l r (acc ++ [.inl (n : Int)]) else none
  | true :: l, b, acc => match dec 0 b with
    | none => none
    | some (n, r) => if (n : Int) ≤ 4096 ∧ n ≤ r.length then rdQ l (r.drop n) (acc ++ [.inr (strOfNums (r.take n))]) else none
def rdEnd : Option (List (Int ⊕ ByteArray) × List Int) → Option (List (Int ⊕ ByteArray))
  | some (vs, r) => if r.length = 0 then some vs else none
  | none => none
theorem ttOf_some {n : Nat} {r : List Int} (h : (n : Int) ≤ 4096 ∧ n ≤ r.length) : ttOf 4096 (some (n, r)) = (strOfNums (r.take n), r.drop n, true) := by
  unfold ttOf
  simp only
  rw [if_neg (by omega)]
theorem ttOf_none {n : Nat} {r : List Int} (h : ¬ ((n : Int) ≤ 4096 ∧ n ≤ r.length)) : ttOf 4096 (some (n, r)) = (⟨#[]⟩, [], false) := by
  unfold ttOf
  simp only
  rw [if_pos (by omega)]
theorem wireRd_ev : ∀ (l : List Bool) (b : List Int) (acc : List (Int ⊕ ByteArray)), Byt b → b.length ≤ 140737488351232 → Ev (fun k => wireRd k l b acc) (rdEnd (rdQ l b acc))
  | [], b, acc, _, _ => by
    simp only [wireRd, rdQ, rdEnd]
    exact Ev.now _
  | false :: l, b, acc, hb, hl => by
    simp only [wireRd]
    refine Ev.bind (code_TakeNum_ev b hb hl) ?_
    rw [decRes00, rdQ]
    cases hd : dec 0 b with
    | none => exact Ev.now _
    | some p =>
      obtain ⟨n, r⟩ := p
      obtain ⟨hr, hrm⟩ := dec_suf b 0 n r hd
      simp only [if_true]
      by_cases hn : (n : Int) ≤ 9223372036854775807
      · simp only [if_pos hn]
        rw [wrap64_id (by omega) hn]
        exact wireRd_ev l r _ (fun x hx => hb x (hrm x hx)) (by omega)
      · simp only [if_neg hn]
        exact Ev.now _
  | true :: l, b, acc, hb, hl => by
    simp only [wireRd]
    refine Ev.bind (code_TakeText_ev b 4096 hb hl (by omega) (by omega)) ?_
    rw [rdQ]
    cases hd : dec 0 b with
    | none => exact Ev.now _
    | some p =>
      obtain ⟨n, r⟩ := p
      obtain ⟨hr, hrm⟩ := dec_suf b 0 n r hd
      by_cases hn : (n : Int) ≤ 4096 ∧ n ≤ r.length
      · rw [ttOf_some hn]
        simp only [if_true, if_pos hn]
        exact wireRd_ev l (r.drop n) _ (fun x hx => hb x (hrm x (List.mem_of_mem_drop hx))) (by rw [List.length_drop]; omega)
      · rw [ttOf_none hn]
        simp only [if_neg hn]
        exact Ev.now _
theorem decR_some {b r : List Int} {n : Nat} (h : dec 0 b = some (n, r)) : decRes 0 0 (dec 0 b) = ((n : Int), r, true) := by rw [h, decRes00]
theorem decR_none {b : List Int} (h : dec 0 b = none) : decRes 0 0 (dec 0 b) = (0, [], false) := by rw [h, decRes00]

theorem rd_of_wr : ∀ (l : List (Int ⊕ ByteArray)) (rest : List Int) (acc : List (Int ⊕ ByteArray)), (∀ f ∈ l, FldB f) → l.all fldOk = true → rdQ (l.map isTx) (l.flatMap fldEnc ++ rest) acc = some (acc ++ l, rest)
  | [], rest, acc, _, _ => by simp [rdQ]
  | .inl n :: l, rest, acc, hb, ho => by
    have hn : n ≤ 9223372036854775807 := hb _ List.mem_cons_self
    simp only [List.all_cons, Bool.and_eq_true] at ho
    have h0 : 0 ≤ n := by have := ho.1; simpa [fldOk] using this
    have ih := rd_of_wr l rest (acc ++ [.inl n]) (fun f hf => hb f (List.mem_cons_of_mem _ hf)) ho.2
    have hd := enc_dec n.toNat 0 (l.flatMap fldEnc ++ rest) (by omega) (by omega) (by omega)
    show rdQ (false :: l.map isTx) ((.inl n :: l : List (Int ⊕ ByteArray)).flatMap fldEnc ++ rest) acc = _
    rw [List.flatMap_cons, show fldEnc (.inl n) = numEnc n.toNat from rfl, List.append_assoc, rdQ, hd]
    have e : ((n.toNat : Nat) : Int) = n := Int.toNat_of_nonneg h0
    simp only [e, if_pos hn]
    rw [ih]
    simp
  | .inr s :: l, rest, acc, hb, ho => by
    simp only [List.all_cons, Bool.and_eq_true] at ho
    have h0 : (s.size : Int) ≤ 4096 := by have := ho.1; simpa [fldOk] using this
    have ih := rd_of_wr l rest (acc ++ [.inr s]) (fun f hf => hb f (List.mem_cons_of_mem _ hf)) ho.2
    have hd := enc_dec s.size 0 (bytesOf s ++ (l.flatMap fldEnc ++ rest)) (by omega) (by omega) (by omega)
    show rdQ (true :: l.map isTx) ((.inr s :: l : List (Int ⊕ ByteArray)).flatMap fldEnc ++ rest) acc = _
    rw [List.flatMap_cons, show fldEnc (.inr s) = numEnc s.size ++ bytesOf s from rfl, List.append_assoc, List.append_assoc, rdQ, hd]
    have hl := bytesOf_length s
    have h1 : (s.size : Int) ≤ 4096 ∧ s.size ≤ (bytesOf s ++ (l.flatMap fldEnc ++ rest)).length := ⟨h0, by rw [List.length_append]; omega⟩
    simp only [if_pos h1]
    have e1 : (bytesOf s ++ (l.flatMap fldEnc ++ rest)).take s.size = bytesOf s := by rw [← hl, List.take_left]
    have e2 : (bytesOf s ++ (l.flatMap fldEnc ++ rest)).drop s.size = l.flatMap fldEnc ++ rest := by rw [← hl, List.drop_left]
    rw [e1, e2, nums_bytesOf, ih]
    simp
theorem wr_of_rd : ∀ (ts : List Bool) (b : List Int) (acc vs : List (Int ⊕ ByteArray)) (r : List Int), Byt b → b.length ≤ 140737488351232 → rdQ ts b acc = some (vs, r) → ∃ us, vs = acc ++ us ∧ us.map isTx = ts ∧ us.all fldOk = true ∧ (∀ f ∈ us, FldB f) ∧ us.flatMap fldEnc ++ r = b
  | [], b, acc, vs, r, _, _, h => by
    simp only [rdQ, Option.some.injEq, Prod.mk.injEq] at h
    exact ⟨[], by simp [h.1], rfl, rfl, by simp, by simp [h.2]⟩
  | false :: ts, b, acc, vs, r, hb, hl, h => by
    rw [rdQ] at h
    cases hd : dec 0 b with
    | none => rw [hd] at h; simp at h
    | some p =>
      obtain ⟨n, q⟩ := p
      obtain ⟨hr, hrm⟩ := dec_suf b 0 n q hd
      have he := (dec_enc b hb 0 n q hd).1
      rw [hd] at h
      simp only at h
      split at h
      · rename_i hn
        obtain ⟨us, rfl, hu, hok, hB, hE⟩ := wr_of_rd ts q _ _ _ (fun x hx => hb x (hrm x hx)) (by omega) h
        refine ⟨.inl (n : Int) :: us, by simp, by simp [hu, isTx], ?_, ?_, ?_⟩
        · rw [List.all_cons, hok]
          simp [fldOk]
        · intro f hf
          rcases List.mem_cons.mp hf with rfl | hf
          · exact hn
          · exact hB f hf
        · rw [List.flatMap_cons, List.append_assoc, hE, ← he]
          rfl
      · cases h
  | true :: ts, b, acc, vs, r, hb, hl, h => by
    rw [rdQ] at h
    cases hd : dec 0 b with
    | none => rw [hd] at h; simp at h
    | some p =>
      obtain ⟨n, q⟩ := p
      obtain ⟨hr, hrm⟩ := dec_suf b 0 n q hd
      have he := (dec_enc b hb 0 n q hd).1
      rw [hd] at h
      simp only at h
      split at h
      · rename_i hn
        have hqb : Byt q := fun x hx => hb x (hrm x hx)
        obtain ⟨us, rfl, hu, hok, hB, hE⟩ := wr_of_rd ts (q.drop n) _ _ _ (hqb.drop n) (by rw [List.length_drop]; omega) h
        have hsz : (strOfNums (q.take n)).size = n := by rw [nums_size, List.length_take]; omega
        refine ⟨.inr (strOfNums (q.take n)) :: us, by simp, by simp [hu, isTx], ?_, ?_, ?_⟩
        · rw [List.all_cons, hok]
          simp only [fldOk, hsz, Bool.and_true, decide_eq_true_eq]
          exact hn.1
        · intro f hf
          rcases List.mem_cons.mp hf with rfl | hf
          · show (strOfNums (q.take n)).size ≤ 140737488351232
            omega
          · exact hB f hf
        · rw [List.flatMap_cons, List.append_assoc, hE, ← he]
          show numEnc (strOfNums (q.take n)).size ++ bytesOf (strOfNums (q.take n)) ++ q.drop n = _
          rw [hsz, bytesOf_nums (hqb.take n), List.append_assoc, List.take_append_drop]
      · cases h
theorem wrP_some {l : List (Int ⊕ ByteArray)} {b r : List Int} (h : wrP l b = some r) : l.all fldOk = true ∧ r = b ++ l.flatMap fldEnc := by
  unfold wrP at h
  split at h
  · rename_i ho
    exact ⟨ho, (Option.some.inj h).symm⟩
  · cases h
theorem outB_ok {x : Option (List Int)} (h : (outB x).2 = 0) : ∃ r, x = some r ∧ outB x = (r, 0) := by
  cases x with
  | none => simp [outB] at h
  | some r => exact ⟨r, rfl, rfl⟩
theorem getN_b {os : List Nat} {vs : List (Int ⊕ ByteArray)} (h : ∀ f ∈ vs, FldB f) (o : Nat) : getN os vs o ≤ 9223372036854775807 := by
  induction os generalizing vs with
  | nil => cases vs <;> simp [getN]
  | cons o' os ih =>
    cases vs with
    | nil => simp [getN]
    | cons v vs =>
      by_cases ho : o' = o
      · simp only [getN, if_pos ho]
        cases v with
        | inl n => exact h _ List.mem_cons_self
        | inr s => simp
      · simp only [getN, if_neg ho]
        exact ih (fun f hf => h f (List.mem_cons_of_mem _ hf))
theorem getS_b {os : List Nat} {vs : List (Int ⊕ ByteArray)} (h : ∀ f ∈ vs, FldB f) (o : Nat) : (getS os vs o).size ≤ 140737488351232 := by
  induction os generalizing vs with
  | nil => cases vs <;> simp [getS, ByteArray.size]
  | cons o' os ih =>
    cases vs with
    | nil => simp [getS, ByteArray.size]
    | cons v vs =>
      by_cases ho : o' = o
      · simp only [getS, if_pos ho]
        cases v with
        | inl n => simp [ByteArray.size]
        | inr s => exact h _ List.mem_cons_self
      · simp only [getS, if_neg ho]
        exact ih (fun f hf => h f (List.mem_cons_of_mem _ hf))
theorem fl_byt : ∀ (l : List (Int ⊕ ByteArray)), Byt (l.flatMap fldEnc) := by
  intro l x hx
  obtain ⟨f, _, hf⟩ := List.mem_flatMap.mp hx
  cases f with
  | inl n => exact numEnc_byt _ x hf
  | inr s =>
    rcases List.mem_append.mp hf with hf | hf
    · exact numEnc_byt _ x hf
    · exact strs_byt s x hf
theorem fl_len : ∀ (l : List (Int ⊕ ByteArray)), (∀ f ∈ l, FldB f) → l.all fldOk = true → (l.flatMap fldEnc).length ≤ 5000 * l.length := by
  intro l
  induction l with
  | nil => intro _ _; simp
  | cons f l ih =>
    intro hB hO
    simp only [List.all_cons, Bool.and_eq_true] at hO
    have := ih (fun g hg => hB g (List.mem_cons_of_mem _ hg)) hO.2
    rw [List.flatMap_cons, List.length_append, List.length_cons]
    have hf : (fldEnc f).length ≤ 5000 := by
      cases f with
      | inl n =>
        have hn : n ≤ 9223372036854775807 := hB _ List.mem_cons_self
        have := len10 (n := n.toNat) (by omega)
        show (numEnc n.toNat).length ≤ 5000
        omega
      | inr s =>
        have hs : (s.size : Int) ≤ 4096 := by have := hO.1; simpa [fldOk] using this
        have := len10 (n := s.size) (by omega)
        have := bytesOf_length s
        show (numEnc s.size ++ bytesOf s).length ≤ 5000
        rw [List.length_append]
        omega
    omega

theorem msgOffs_pos {k : Int} {os : List Nat} (h : msgOffs k = some os) : 1 ≤ k ∧ k ≤ 2 := by
  unfold msgOffs at h
  split at h
  · omega
  · split at h
    · omega
    · cases h
theorem msgOffs_big {n : Int} (h : ¬ n ≤ 1000) : msgOffs n = none := by
  unfold msgOffs
  rw [if_neg (by omega), if_neg (by omega)]
def msgBad : Int × Int × Int × ByteArray × Int × Int := (0, 0, 0, ⟨#[]⟩, 0, 220)
def msgGood (n : Int) (os : List Nat) (vs : List (Int ⊕ ByteArray)) : Int × Int × Int × ByteArray × Int × Int := (n, getN os vs 1, getN os vs 2, getS os vs 3, getN os vs 4, 0)
def msgH (k : Nat) (n : Int) (r : List Int) : Option (Int × Int × Int × ByteArray × Int × Int) :=
  match msgOffs n with
  | none => some msgBad
  | some os => (wireRd k (os.map (· == 3)) r []).bind fun x => match x with
    | none => some msgBad
    | some vs => some (msgGood n os vs)
def msgG (k : Nat) (r : Int × List Int × Bool) : Option (Int × Int × Int × ByteArray × Int × Int) := if r.2.2 = true ∧ r.1 ≤ 1000 then msgH k (wrap64 r.1) r.2.1 else some msgBad
theorem msg_isG (k : Nat) (b : List Int) : wire_ReadMsg.f k b = (code_TakeNum.f k b).bind (msgG k) := rfl
theorem msgG_ok (k : Nat) (n m : Int) (r : List Int) (h : n ≤ 1000) (hw : wrap64 n = m) : msgG k (n, r, true) = msgH k m r := by
  subst hw
  exact if_pos ⟨rfl, h⟩
theorem msgG_big (k : Nat) (n : Int) (r : List Int) (h : ¬ n ≤ 1000) : msgG k (n, r, true) = some msgBad := if_neg (fun q => h q.2)
theorem msgG_no (k : Nat) (n : Int) (r : List Int) : msgG k (n, r, false) = some msgBad := if_neg (fun q => Bool.noConfusion q.1)
def msgR2 (n : Int) (r : List Int) : Int × Int × Int × ByteArray × Int × Int :=
  match msgOffs n with
  | none => msgBad
  | some os => match rdEnd (rdQ (os.map (· == 3)) r []) with
    | none => msgBad
    | some vs => msgGood n os vs
theorem msgH_ev (n : Int) (r : List Int) (hb : Byt r) (hl : r.length ≤ 140737488351232) : Ev (fun k => msgH k n r) (msgR2 n r) := by
  unfold msgR2 msgH
  cases msgOffs n with
  | none => exact Ev.now _
  | some os =>
    dsimp only
    refine Ev.bind (wireRd_ev (os.map (· == 3)) r [] hb hl) ?_
    cases rdEnd (rdQ (os.map (· == 3)) r []) with
    | none => exact Ev.now _
    | some vs => exact Ev.now _
def msgR (b : List Int) : Int × Int × Int × ByteArray × Int × Int :=
  match dec 0 b with
  | none => msgBad
  | some (n, r) => msgR2 (n : Int) r
theorem msgR_some {b r : List Int} {n : Nat} (h : dec 0 b = some (n, r)) : msgR b = msgR2 (n : Int) r := by
  unfold msgR
  rw [h]
theorem msgR_none {b : List Int} (h : dec 0 b = none) : msgR b = msgBad := by
  unfold msgR
  rw [h]
theorem msgR2_bad {n : Int} {r : List Int} (h : msgOffs n = none) : msgR2 n r = msgBad := by
  unfold msgR2
  rw [h]
theorem msgR_ev (b : List Int) (hb : Byt b) (hl : b.length ≤ 140737488351232) : Ev (fun k => wire_ReadMsg.f k b) (msgR b) := by
  refine Ev.congr (msg_isG · b) ?_
  have E := code_TakeNum_ev b hb hl
  cases hd : dec 0 b with
  | none =>
    rw [decR_none hd] at E
    rw [msgR_none hd]
    exact Ev.bind E (Ev.congr (fun k => msgG_no k _ _) (Ev.now _))
  | some p =>
    obtain ⟨n, r⟩ := p
    obtain ⟨hr, hrm⟩ := dec_suf b 0 n r hd
    rw [decR_some hd] at E
    rw [msgR_some hd]
    have hrl : r.length ≤ 140737488351232 := Nat.le_trans hr hl
    have hrb : Byt r := fun x hx => hb x (hrm x hx)
    clear hd hr hrm hb hl
    obtain ⟨m, hm⟩ : ∃ m : Int, (n : Int) = m := ⟨_, rfl⟩
    have h0 : 0 ≤ m := by omega
    rw [hm] at E ⊢
    clear hm
    refine Ev.bind E ?_
    by_cases hn : m ≤ 1000
    · exact Ev.congr (fun k => msgG_ok k m m r hn (wrap64_id (by omega) (by omega))) (msgH_ev m r hrb hrl)
    · rw [msgR2_bad (msgOffs_big hn)]
      exact Ev.congr (fun k => msgG_big k m r hn) (Ev.now _)

theorem reqOffs_pos {k : Int} {os : List Nat} (h : reqOffs k = some os) : 1 ≤ k ∧ k ≤ 12 := by
  unfold reqOffs at h
  repeat' split at h
  all_goals first | omega | cases h
theorem reqOffs_big {n : Int} (h : ¬ n ≤ 12) : reqOffs n = none := by
  cases e : reqOffs n with
  | none => rfl
  | some os => have := reqOffs_pos e; omega
def reqBad : Int × ByteArray × Int × Int × Int × Int × Int × Int := (0, ⟨#[]⟩, 0, 0, 0, 0, 0, 220)
def reqGood (n : Int) (os : List Nat) (vs : List (Int ⊕ ByteArray)) : Int × ByteArray × Int × Int × Int × Int × Int × Int := (n, getS os vs 1, getN os vs 2, getN os vs 3, getN os vs 4, getN os vs 5, getN os vs 6, 0)
def reqH (k : Nat) (n : Int) (r : List Int) : Option (Int × ByteArray × Int × Int × Int × Int × Int × Int) :=
  match reqOffs n with
  | none => some reqBad
  | some os => (wireRd k (os.map (· == 1)) r []).bind fun x => match x with
    | none => some reqBad
    | some vs => some (reqGood n os vs)
def reqG (k : Nat) (r : Int × List Int × Bool) : Option (Int × ByteArray × Int × Int × Int × Int × Int × Int) := if r.2.2 = true ∧ r.1 ≤ 1000 then reqH k (wrap64 r.1) r.2.1 else some reqBad
theorem req_isG (k : Nat) (b : List Int) : wire_Read.f k b = (code_TakeNum.f k b).bind (reqG k) := rfl
theorem reqG_ok (k : Nat) (n m : Int) (r : List Int) (h : n ≤ 1000) (hw : wrap64 n = m) : reqG k (n, r, true) = reqH k m r := by
  subst hw
  exact if_pos ⟨rfl, h⟩
theorem reqG_big (k : Nat) (n : Int) (r : List Int) (h : ¬ n ≤ 1000) : reqG k (n, r, true) = some reqBad := if_neg (fun q => h q.2)
theorem reqG_no (k : Nat) (n : Int) (r : List Int) : reqG k (n, r, false) = some reqBad := if_neg (fun q => Bool.noConfusion q.1)
def reqR2 (n : Int) (r : List Int) : Int × ByteArray × Int × Int × Int × Int × Int × Int :=
  match reqOffs n with
  | none => reqBad
  | some os => match rdEnd (rdQ (os.map (· == 1)) r []) with
    | none => reqBad
    | some vs => reqGood n os vs
theorem reqH_ev (n : Int) (r : List Int) (hb : Byt r) (hl : r.length ≤ 140737488351232) : Ev (fun k => reqH k n r) (reqR2 n r) := by
  unfold reqR2 reqH
  cases reqOffs n with
  | none => exact Ev.now _
  | some os =>
    dsimp only
    refine Ev.bind (wireRd_ev (os.map (· == 1)) r [] hb hl) ?_
    cases rdEnd (rdQ (os.map (· == 1)) r []) with
    | none => exact Ev.now _
    | some vs => exact Ev.now _
def reqR (b : List Int) : Int × ByteArray × Int × Int × Int × Int × Int × Int :=
  match dec 0 b with
  | none => reqBad
  | some (n, r) => reqR2 (n : Int) r
theorem reqR_some {b r : List Int} {n : Nat} (h : dec 0 b = some (n, r)) : reqR b = reqR2 (n : Int) r := by
  unfold reqR
  rw [h]
theorem reqR_none {b : List Int} (h : dec 0 b = none) : reqR b = reqBad := by
  unfold reqR
  rw [h]
theorem reqR2_bad {n : Int} {r : List Int} (h : reqOffs n = none) : reqR2 n r = reqBad := by
  unfold reqR2
  rw [h]
theorem reqR_ev (b : List Int) (hb : Byt b) (hl : b.length ≤ 140737488351232) : Ev (fun k => wire_Read.f k b) (reqR b) := by
  refine Ev.congr (req_isG · b) ?_
  have E := code_TakeNum_ev b hb hl
  cases hd : dec 0 b with
  | none =>
    rw [decR_none hd] at E
    rw [reqR_none hd]
    exact Ev.bind E (Ev.congr (fun k => reqG_no k _ _) (Ev.now _))
  | some p =>
    obtain ⟨n, r⟩ := p
    obtain ⟨hr, hrm⟩ := dec_suf b 0 n r hd
    rw [decR_some hd] at E
    rw [reqR_some hd]
    have hrl : r.length ≤ 140737488351232 := Nat.le_trans hr hl
    have hrb : Byt r := fun x hx => hb x (hrm x hx)
    clear hd hr hrm hb hl
    obtain ⟨m, hm⟩ : ∃ m : Int, (n : Int) = m := ⟨_, rfl⟩
    have h0 : 0 ≤ m := by omega
    rw [hm] at E ⊢
    clear hm
    refine Ev.bind E ?_
    by_cases hn : m ≤ 1000
    · exact Ev.congr (fun k => reqG_ok k m m r hn (wrap64_id (by omega) (by omega))) (reqH_ev m r hrb hrl)
    · rw [reqR2_bad (reqOffs_big (by omega))]
      exact Ev.congr (fun k => reqG_big k m r hn) (Ev.now _)

def reqB (a0 : Int) (a1 : ByteArray) (a2 a3 a4 a5 a6 : Int) : List Int × Int :=
  match reqOffs a0 with
  | none => ([], 220)
  | some os => if reqPlain os a1 a2 a3 a4 a5 a6 = true then outB (wrP (reqFlds os a0 a1 a2 a3 a4 a5 a6) (numEnc a0.toNat)) else ([], 220)
def reqE (os : List Nat) (a1 : ByteArray) (a2 a3 a4 a5 a6 : Int) : List (Int ⊕ ByteArray) := os.map fun o => if o = 1 then .inr a1 else .inl (if o = 2 then a2 else if o = 3 then a3 else if o = 4 then a4 else if o = 5 then a5 else a6)
theorem reqFlds_E {os : List Nat} {a0 : Int} {a1 : ByteArray} {a2 a3 a4 a5 a6 : Int} (ho : reqOffs a0 = some os) : reqFlds os a0 a1 a2 a3 a4 a5 a6 = reqE os a1 a2 a3 a4 a5 a6 := by
  rcases reqOffs_cases ho with rfl | rfl | rfl | rfl | rfl | rfl | rfl | rfl <;> rfl
theorem reqFlds_b {os : List Nat} {a0 : Int} {a1 : ByteArray} {a2 a3 a4 a5 a6 : Int} (h1 : a1.size ≤ 140737488351232) (h2 : a2 ≤ 9223372036854775807) (h3 : a3 ≤ 9223372036854775807) (h4 : a4 ≤ 9223372036854775807) (h5 : a5 ≤ 9223372036854775807) (h6 : a6 ≤ 9223372036854775807) (ho : reqOffs a0 = some os) :
    (∀ f ∈ reqFlds os a0 a1 a2 a3 a4 a5 a6, FldB f) ∧ (reqFlds os a0 a1 a2 a3 a4 a5 a6).length ≤ 8 := by
  rw [reqFlds_E ho]
  refine ⟨?_, by rcases reqOffs_cases ho with rfl | rfl | rfl | rfl | rfl | rfl | rfl | rfl <;> simp [reqE]⟩
  intro f hf
  unfold reqE at hf
  obtain ⟨o, _, rfl⟩ := List.mem_map.mp hf
  split
  · exact h1
  · show (if o = 2 then a2 else if o = 3 then a3 else if o = 4 then a4 else if o = 5 then a5 else a6) ≤ 9223372036854775807
    split
    · exact h2
    · split
      · exact h3
      · split
        · exact h4
        · split
          · exact h5
          · exact h6
theorem reqB_ev (a0 : Int) (a1 : ByteArray) (a2 a3 a4 a5 a6 : Int) (h1 : a1.size ≤ 140737488351232) (h2 : a2 ≤ 9223372036854775807) (h3 : a3 ≤ 9223372036854775807) (h4 : a4 ≤ 9223372036854775807) (h5 : a5 ≤ 9223372036854775807) (h6 : a6 ≤ 9223372036854775807) : Ev (fun k => wire_Bytes.f k a0 a1 a2 a3 a4 a5 a6) (reqB a0 a1 a2 a3 a4 a5 a6) := by
  unfold wire_Bytes.f reqB
  cases ho : reqOffs a0 with
  | none => exact Ev.now _
  | some os =>
    have hk := reqOffs_pos ho
    simp only
    by_cases hp : reqPlain os a1 a2 a3 a4 a5 a6 = true
    · simp only [if_pos hp]
      rw [show IntKind.u64.wrap a0 = a0 by rw [wu64]; omega]
      refine Ev.bind (code_Num_ev a0 (by omega) (by omega)) ?_
      obtain ⟨b1, b2⟩ := reqFlds_b (a0 := a0) h1 h2 h3 h4 h5 h6 ho
      have h10 := len10 (n := a0.toNat) (by omega)
      exact Ev.bind (wireWr_ev _ _ b1 (by omega)) (Ev.now _)
    · simp only [if_neg hp]
      exact Ev.now _

theorem numEnc_300 : numEnc 300 = [172, 2] := by
  rw [numEnc_ge (by decide), numEnc_lt (by decide)]
  rfl
theorem bytesOf_a : bytesOf (⟨#[97]⟩ : ByteArray) = [97] := by
  rw [bl_bytesOf, bl_eq]
  rfl
theorem awake_B : reqB 2 (⟨#[97]⟩ : ByteArray) 0 300 0 0 0 = ([2, 1, 97, 172, 2], 0) := by
  have ho : reqOffs 2 = some [1, 3] := rfl
  have hp : reqPlain [1, 3] (⟨#[97]⟩ : ByteArray) 0 300 0 0 0 = true := by
    unfold reqPlain pickN pickS
    simp
  unfold reqB
  rw [ho]
  simp only [hp, if_true]
  have e : reqFlds [1, 3] 2 (⟨#[97]⟩ : ByteArray) 0 300 0 0 0 = [.inr ⟨#[97]⟩, .inl 300] := rfl
  rw [e]
  have e2 : wrP [.inr ⟨#[97]⟩, .inl 300] (numEnc (2 : Int).toNat) = some [2, 1, 97, 172, 2] := by
    unfold wrP
    rw [if_pos (by decide)]
    simp only [List.flatMap_cons, List.flatMap_nil, fldEnc]
    rw [show (⟨#[97]⟩ : ByteArray).size = 1 from rfl, show (300 : Int).toNat = 300 from rfl, show (2 : Int).toNat = 2 from rfl, numEnc_300, numEnc_lt (n := 1) (by decide), numEnc_lt (n := 2) (by decide), bytesOf_a]
    rfl
  rw [e2]
  rfl
theorem awake_R : msgR [2, 3, 5] = (2, 3, 5, ⟨#[]⟩, 0, 0) := by
  have h : dec 0 [2, 3, 5] = some (2, [3, 5]) := by decide
  rw [msgR_some h]
  rfl
theorem awake22 : Ev (fun k => lienlaw22_awake.f k) true := by
  unfold lienlaw22_awake.f
  refine Ev.bind (reqB_ev 2 (⟨#[97]⟩ : ByteArray) 0 300 0 0 0 (by decide) (by decide) (by decide) (by decide) (by decide) (by decide)) ?_
  refine Ev.bind (msgR_ev [2, 3, 5] (by intro x hx; simp at hx; omega) (by simp)) ?_
  rw [awake_B, awake_R]
  have h : (strOfNums [2, 1, 97, 172, 2]).toList = ([2, 1, 97, 172, 2] : List UInt8) := by rw [bl_nums]; rfl
  refine Ev.congr (f := fun _ => some true) (fun _ => ?_) (Ev.now _)
  rw [if_pos rfl, if_pos h, if_pos rfl, bl_eq]
  rfl

theorem reqPlain_eq {a0 : Int} {os : List Nat} {a1 : ByteArray} {a2 a3 a4 a5 a6 : Int} (ho : reqOffs a0 = some os) (hp : reqPlain os a1 a2 a3 a4 a5 a6 = true) :
    getS os (reqE os a1 a2 a3 a4 a5 a6) 1 = a1 ∧ getN os (reqE os a1 a2 a3 a4 a5 a6) 2 = a2 ∧ getN os (reqE os a1 a2 a3 a4 a5 a6) 3 = a3 ∧ getN os (reqE os a1 a2 a3 a4 a5 a6) 4 = a4 ∧ getN os (reqE os a1 a2 a3 a4 a5 a6) 5 = a5 ∧ getN os (reqE os a1 a2 a3 a4 a5 a6) 6 = a6 := by
  unfold reqPlain at hp
  simp only [Bool.and_eq_true, beq_iff_eq, true_and] at hp
  obtain ⟨h1, h2, h3, h4, h5, h6⟩ := hp
  have h1' := ba_ext h1
  have e : getS os (reqE os a1 a2 a3 a4 a5 a6) 1 = pickS os 1 a1 ∧ getN os (reqE os a1 a2 a3 a4 a5 a6) 2 = pickN os 2 a2 ∧ getN os (reqE os a1 a2 a3 a4 a5 a6) 3 = pickN os 3 a3 ∧ getN os (reqE os a1 a2 a3 a4 a5 a6) 4 = pickN os 4 a4 ∧ getN os (reqE os a1 a2 a3 a4 a5 a6) 5 = pickN os 5 a5 ∧ getN os (reqE os a1 a2 a3 a4 a5 a6) 6 = pickN os 6 a6 := by
    rcases reqOffs_cases ho with rfl | rfl | rfl | rfl | rfl | rfl | rfl | rfl <;> exact ⟨rfl, rfl, rfl, rfl, rfl, rfl⟩
  obtain ⟨e1, e2, e3, e4, e5, e6⟩ := e
  exact ⟨e1.trans h1', e2.trans h2, e3.trans h3, e4.trans h4, e5.trans h5, e6.trans h6⟩
theorem reqE_kinds2 (os : List Nat) (a1 : ByteArray) (a2 a3 a4 a5 a6 : Int) : (reqE os a1 a2 a3 a4 a5 a6).map isTx = os.map (· == 1) := by
  unfold reqE
  rw [List.map_map]
  apply List.map_congr_left
  intro o _
  simp only [Function.comp]
  split
  · rename_i h; rw [h]; rfl
  · rename_i h; simp [isTx, h]
theorem req_round (a0 : Int) (a1 : ByteArray) (a2 a3 a4 a5 a6 : Int) (h1 : a1.size ≤ 140737488351232) (h2 : a2 ≤ 9223372036854775807) (h3 : a3 ≤ 9223372036854775807) (h4 : a4 ≤ 9223372036854775807) (h5 : a5 ≤ 9223372036854775807) (h6 : a6 ≤ 9223372036854775807) (hx : (reqB a0 a1 a2 a3 a4 a5 a6).2 = 0) :
    reqR (reqB a0 a1 a2 a3 a4 a5 a6).1 = (a0, a1, a2, a3, a4, a5, a6, 0) ∧ Byt (reqB a0 a1 a2 a3 a4 a5 a6).1 ∧ (reqB a0 a1 a2 a3 a4 a5 a6).1.length ≤ 140737488351232 := by
  unfold reqB at hx ⊢
  cases ho : reqOffs a0 with
  | none => rw [ho] at hx; simp at hx
  | some os =>
    rw [ho] at hx
    have hk := reqOffs_pos ho
    simp only at hx ⊢
    by_cases hp : reqPlain os a1 a2 a3 a4 a5 a6 = true
    · rw [if_pos hp] at hx ⊢
      obtain ⟨r, hr, hro⟩ := outB_ok hx
      rw [hro]
      obtain ⟨b1, b2⟩ := reqFlds_b (a0 := a0) h1 h2 h3 h4 h5 h6 ho
      rw [reqFlds_E ho] at hr b1 b2
      obtain ⟨hok, he⟩ := wrP_some hr
      have hd := enc_dec a0.toNat 0 ((reqE os a1 a2 a3 a4 a5 a6).flatMap fldEnc) (by omega) (by omega) (by omega)
      have hrd := rd_of_wr (reqE os a1 a2 a3 a4 a5 a6) [] [] b1 hok
      rw [List.append_nil, List.nil_append, reqE_kinds2] at hrd
      have hgood := reqPlain_eq ho hp
      refine ⟨?_, ?_, ?_⟩
      · rw [he]
        rw [reqR_some hd]
        have e0 : ((a0.toNat : Nat) : Int) = a0 := Int.toNat_of_nonneg (by omega)
        rw [e0]
        unfold reqR2
        rw [ho]
        simp only
        rw [hrd]
        simp only [rdEnd, List.length_nil, if_true]
        obtain ⟨g1, g2, g3, g4, g5, g6⟩ := hgood
        unfold reqGood
        rw [g1, g2, g3, g4, g5, g6]
      · rw [he]
        intro x hx
        rcases List.mem_append.mp hx with hx | hx
        · exact numEnc_byt _ x hx
        · exact fl_byt _ x hx
      · rw [he]
        have := fl_len _ b1 hok
        have := len10 (n := a0.toNat) (by omega)
        simp only [List.length_append]
        omega
    · rw [if_neg hp] at hx; simp at hx
theorem req_only (b : List Int) (hb : Byt b) (hl : b.length ≤ 140737488351232) (k : Int) (s : ByteArray) (x2 x3 x4 x5 x6 : Int) (h : reqR b = (k, s, x2, x3, x4, x5, x6, 0)) :
    reqB k s x2 x3 x4 x5 x6 = (b, 0) ∧ s.size ≤ 140737488351232 ∧ x2 ≤ 9223372036854775807 ∧ x3 ≤ 9223372036854775807 ∧ x4 ≤ 9223372036854775807 ∧ x5 ≤ 9223372036854775807 ∧ x6 ≤ 9223372036854775807 := by
  cases hd : dec 0 b with
  | none =>
    rw [reqR_none hd] at h
    unfold reqBad at h
    simp at h
  | some p =>
    obtain ⟨n, r⟩ := p
    obtain ⟨hr, hrm⟩ := dec_suf b 0 n r hd
    have he := (dec_enc b hb 0 n r hd).1
    rw [reqR_some hd] at h
    unfold reqR2 at h
    cases ho : reqOffs (n : Int) with
    | none => rw [ho] at h; unfold reqBad at h; simp at h
    | some os =>
      rw [ho] at h
      simp only at h
      cases hq : rdQ (os.map (· == 1)) r [] with
      | none => rw [hq] at h; simp only [rdEnd] at h; unfold reqBad at h; simp at h
      | some p =>
        obtain ⟨vs, q⟩ := p
        rw [hq] at h
        simp only [rdEnd] at h
        by_cases hz : q.length = 0
        · rw [if_pos hz] at h
          unfold reqGood at h
          simp only [Prod.mk.injEq] at h
          obtain ⟨rfl, rfl, rfl, rfl, rfl, rfl, rfl, _⟩ := h
          obtain ⟨us, e1, hu, hok, hB, hE⟩ := wr_of_rd _ _ _ _ _ (fun x hx => hb x (hrm x hx)) (by omega) hq
          rw [List.nil_append] at e1
          subst e1
          have hq0 : q = [] := List.eq_nil_of_length_eq_zero hz
          rw [hq0, List.append_nil] at hE
          refine ⟨?_, getS_b hB _, getN_b hB _, getN_b hB _, getN_b hB _, getN_b hB _, getN_b hB _⟩
          have key : reqPlain os (getS os vs 1) (getN os vs 2) (getN os vs 3) (getN os vs 4) (getN os vs 5) (getN os vs 6) = true ∧ reqE os (getS os vs 1) (getN os vs 2) (getN os vs 3) (getN os vs 4) (getN os vs 5) (getN os vs 6) = vs := by
            rcases reqOffs_cases ho with hs | hs | hs | hs | hs | hs | hs | hs
            · subst hs
              obtain ⟨v0, v1, rfl⟩ := len2 (by simpa using congrArg List.length hu)
              simp at hu
              obtain ⟨h0, h1⟩ := hu
              obtain ⟨x0, rfl⟩ : ∃ s, v0 = .inr s := by have q := kinds_cons h0; rw [if_pos rfl] at q; exact q
              obtain ⟨x1, rfl⟩ : ∃ n, v1 = .inl n := by have q := kinds_cons h1; rw [if_neg (by decide)] at q; exact q
              exact ⟨by simp [reqPlain, pickN, pickS, getN, getS], rfl⟩
            · subst hs
              obtain ⟨v0, v1, v2, v3, rfl⟩ := len4 (by simpa using congrArg List.length hu)
              simp at hu
              obtain ⟨h0, h1, h2, h3⟩ := hu
              obtain ⟨x0, rfl⟩ : ∃ s, v0 = .inr s := by have q := kinds_cons h0; rw [if_pos rfl] at q; exact q
              obtain ⟨x1, rfl⟩ : ∃ n, v1 = .inl n := by have q := kinds_cons h1; rw [if_neg (by decide)] at q; exact q
              obtain ⟨x2, rfl⟩ : ∃ n, v2 = .inl n := by have q := kinds_cons h2; rw [if_neg (by decide)] at q; exact q
              obtain ⟨x3, rfl⟩ : ∃ n, v3 = .inl n := by have q := kinds_cons h3; rw [if_neg (by decide)] at q; exact q
              exact ⟨by simp [reqPlain, pickN, pickS, getN, getS], rfl⟩
            · subst hs
              obtain ⟨v0, v1, rfl⟩ := len2 (by simpa using congrArg List.length hu)
              simp at hu
              obtain ⟨h0, h1⟩ := hu
              obtain ⟨x0, rfl⟩ : ∃ s, v0 = .inr s := by have q := kinds_cons h0; rw [if_pos rfl] at q; exact q
              obtain ⟨x1, rfl⟩ : ∃ n, v1 = .inl n := by have q := kinds_cons h1; rw [if_neg (by decide)] at q; exact q
              exact ⟨by simp [reqPlain, pickN, pickS, getN, getS], rfl⟩
            · subst hs
              obtain ⟨v0, rfl⟩ := len1 (by simpa using congrArg List.length hu)
              simp at hu
              obtain ⟨x0, rfl⟩ : ∃ s, v0 = .inr s := by have q := kinds_cons hu; rw [if_pos rfl] at q; exact q
              exact ⟨by simp [reqPlain, pickN, pickS, getN, getS], rfl⟩
            · subst hs
              obtain ⟨v0, rfl⟩ := len1 (by simpa using congrArg List.length hu)
              simp at hu
              obtain ⟨x0, rfl⟩ : ∃ n, v0 = .inl n := by have q := kinds_cons hu; rw [if_neg (by decide)] at q; exact q
              exact ⟨by simp [reqPlain, pickN, pickS, getN, getS], rfl⟩
            · subst hs
              obtain ⟨v0, v1, v2, rfl⟩ := len3 (by simpa using congrArg List.length hu)
              simp at hu
              obtain ⟨h0, h1, h2⟩ := hu
              obtain ⟨x0, rfl⟩ : ∃ s, v0 = .inr s := by have q := kinds_cons h0; rw [if_pos rfl] at q; exact q
              obtain ⟨x1, rfl⟩ : ∃ n, v1 = .inl n := by have q := kinds_cons h1; rw [if_neg (by decide)] at q; exact q
              obtain ⟨x2, rfl⟩ : ∃ n, v2 = .inl n := by have q := kinds_cons h2; rw [if_neg (by decide)] at q; exact q
              exact ⟨by simp [reqPlain, pickN, pickS, getN, getS], rfl⟩
            · subst hs
              obtain ⟨v0, v1, rfl⟩ := len2 (by simpa using congrArg List.length hu)
              simp at hu
              obtain ⟨h0, h1⟩ := hu
              obtain ⟨x0, rfl⟩ : ∃ n, v0 = .inl n := by have q := kinds_cons h0; rw [if_neg (by decide)] at q; exact q
              obtain ⟨x1, rfl⟩ : ∃ n, v1 = .inl n := by have q := kinds_cons h1; rw [if_neg (by decide)] at q; exact q
              exact ⟨by simp [reqPlain, pickN, pickS, getN, getS], rfl⟩
            · subst hs
              obtain ⟨v0, v1, v2, v3, rfl⟩ := len4 (by simpa using congrArg List.length hu)
              simp at hu
              obtain ⟨h0, h1, h2, h3⟩ := hu
              obtain ⟨x0, rfl⟩ : ∃ n, v0 = .inl n := by have q := kinds_cons h0; rw [if_neg (by decide)] at q; exact q
              obtain ⟨x1, rfl⟩ : ∃ n, v1 = .inl n := by have q := kinds_cons h1; rw [if_neg (by decide)] at q; exact q
              obtain ⟨x2, rfl⟩ : ∃ s, v2 = .inr s := by have q := kinds_cons h2; rw [if_pos rfl] at q; exact q
              obtain ⟨x3, rfl⟩ : ∃ n, v3 = .inl n := by have q := kinds_cons h3; rw [if_neg (by decide)] at q; exact q
              exact ⟨by simp [reqPlain, pickN, pickS, getN, getS], rfl⟩
          unfold reqB
          rw [ho]
          simp only
          rw [if_pos key.1, reqFlds_E ho, key.2]
          have e : wrP vs (numEnc (n : Int).toNat) = some b := by
            unfold wrP
            rw [if_pos hok, Int.toNat_natCast, hE, he]
          rw [e]
          rfl
        · rw [if_neg hz] at h
          unfold reqBad at h
          simp at h

def msgB (a0 a1 a2 : Int) (a3 : ByteArray) (a4 : Int) : List Int × Int :=
  match msgOffs a0 with
  | none => ([], 220)
  | some os => if msgPlain os a1 a2 a3 a4 = true then outB (wrP (msgFlds os a0 a1 a2 a3 a4) (numEnc a0.toNat)) else ([], 220)
theorem msgFlds_b {os : List Nat} {a0 a1 a2 : Int} {a3 : ByteArray} {a4 : Int} (h0 : a0 ≤ 9223372036854775807) (h1 : a1 ≤ 9223372036854775807) (h2 : a2 ≤ 9223372036854775807) (h3 : a3.size ≤ 140737488351232) (h4 : a4 ≤ 9223372036854775807) (ho : msgOffs a0 = some os) :
    (∀ f ∈ msgFlds os a0 a1 a2 a3 a4, FldB f) ∧ (msgFlds os a0 a1 a2 a3 a4).length ≤ 8 := by
  rcases msgOffs_cases ho with rfl | rfl
  · refine ⟨?_, by simp [msgFlds]⟩
    intro f hf
    have e : msgFlds [1, 2, 3, 4] a0 a1 a2 a3 a4 = [.inl a1, .inl a2, .inr a3, .inl a4] := rfl
    rw [e] at hf
    simp at hf
    rcases hf with rfl | rfl | rfl | rfl <;> assumption
  · refine ⟨?_, by simp [msgFlds]⟩
    intro f hf
    have e : msgFlds [1, 2] a0 a1 a2 a3 a4 = [.inl a1, .inl a2] := rfl
    rw [e] at hf
    simp at hf
    rcases hf with rfl | rfl <;> assumption
theorem msgB_ev (a0 a1 a2 : Int) (a3 : ByteArray) (a4 : Int) (h1 : a1 ≤ 9223372036854775807) (h2 : a2 ≤ 9223372036854775807) (h3 : a3.size ≤ 140737488351232) (h4 : a4 ≤ 9223372036854775807) : Ev (fun k => wire_MsgBytes.f k a0 a1 a2 a3 a4) (msgB a0 a1 a2 a3 a4) := by
  unfold wire_MsgBytes.f msgB
  cases ho : msgOffs a0 with
  | none => exact Ev.now _
  | some os =>
    have hk := msgOffs_pos ho
    simp only
    by_cases hp : msgPlain os a1 a2 a3 a4 = true
    · simp only [if_pos hp]
      rw [show IntKind.u64.wrap a0 = a0 by rw [wu64]; omega]
      refine Ev.bind (code_Num_ev a0 (by omega) (by omega)) ?_
      obtain ⟨b1, b2⟩ := msgFlds_b (a0 := a0) (a1 := a1) (a2 := a2) (a3 := a3) (a4 := a4) (by omega) h1 h2 h3 h4 ho
      have h10 := len10 (n := a0.toNat) (by omega)
      exact Ev.bind (wireWr_ev _ _ b1 (by omega)) (Ev.now _)
    · simp only [if_neg hp]
      exact Ev.now _

def msgE (os : List Nat) (a1 a2 : Int) (a3 : ByteArray) (a4 : Int) : List (Int ⊕ ByteArray) := os.map fun o => if o = 3 then .inr a3 else .inl (if o = 1 then a1 else if o = 2 then a2 else a4)
theorem msgFlds_E {os : List Nat} {a0 a1 a2 : Int} {a3 : ByteArray} {a4 : Int} (ho : msgOffs a0 = some os) : msgFlds os a0 a1 a2 a3 a4 = msgE os a1 a2 a3 a4 := by
  rcases msgOffs_cases ho with rfl | rfl <;> rfl
theorem msgPlain_eq {a0 : Int} {os : List Nat} {a1 a2 : Int} {a3 : ByteArray} {a4 : Int} (ho : msgOffs a0 = some os) (hp : msgPlain os a1 a2 a3 a4 = true) :
    getN os (msgE os a1 a2 a3 a4) 1 = a1 ∧ getN os (msgE os a1 a2 a3 a4) 2 = a2 ∧ getS os (msgE os a1 a2 a3 a4) 3 = a3 ∧ getN os (msgE os a1 a2 a3 a4) 4 = a4 := by
  unfold msgPlain at hp
  simp only [Bool.and_eq_true, beq_iff_eq, true_and] at hp
  obtain ⟨h1, h2, h3, h4⟩ := hp
  have h3' := ba_ext h3
  have e : getN os (msgE os a1 a2 a3 a4) 1 = pickN os 1 a1 ∧ getN os (msgE os a1 a2 a3 a4) 2 = pickN os 2 a2 ∧ getS os (msgE os a1 a2 a3 a4) 3 = pickS os 3 a3 ∧ getN os (msgE os a1 a2 a3 a4) 4 = pickN os 4 a4 := by
    rcases msgOffs_cases ho with rfl | rfl <;> exact ⟨rfl, rfl, rfl, rfl⟩
  obtain ⟨e1, e2, e3, e4⟩ := e
  exact ⟨e1.trans h1, e2.trans h2, e3.trans h3', e4.trans h4⟩
theorem msgE_kinds2 (os : List Nat) (a1 a2 : Int) (a3 : ByteArray) (a4 : Int) : (msgE os a1 a2 a3 a4).map isTx = os.map (· == 3) := by
  unfold msgE
  rw [List.map_map]
  apply List.map_congr_left
  intro o _
  simp only [Function.comp]
  split
  · rename_i h; rw [h]; rfl
  · rename_i h; simp [isTx, h]
theorem msg_round (a0 a1 a2 : Int) (a3 : ByteArray) (a4 : Int) (h1 : a1 ≤ 9223372036854775807) (h2 : a2 ≤ 9223372036854775807) (h3 : a3.size ≤ 140737488351232) (h4 : a4 ≤ 9223372036854775807) (hx : (msgB a0 a1 a2 a3 a4).2 = 0) :
    msgR (msgB a0 a1 a2 a3 a4).1 = (a0, a1, a2, a3, a4, 0) ∧ Byt (msgB a0 a1 a2 a3 a4).1 ∧ (msgB a0 a1 a2 a3 a4).1.length ≤ 140737488351232 := by
  unfold msgB at hx ⊢
  cases ho : msgOffs a0 with
  | none => rw [ho] at hx; simp at hx
  | some os =>
    rw [ho] at hx
    have hk := msgOffs_pos ho
    simp only at hx ⊢
    by_cases hp : msgPlain os a1 a2 a3 a4 = true
    · rw [if_pos hp] at hx ⊢
      obtain ⟨r, hr, hro⟩ := outB_ok hx
      rw [hro]
      obtain ⟨b1, b2⟩ := msgFlds_b (a0 := a0) (by omega) h1 h2 h3 h4 ho
      rw [msgFlds_E ho] at hr b1 b2
      obtain ⟨hok, he⟩ := wrP_some hr
      have hd := enc_dec a0.toNat 0 ((msgE os a1 a2 a3 a4).flatMap fldEnc) (by omega) (by omega) (by omega)
      have hrd := rd_of_wr (msgE os a1 a2 a3 a4) [] [] b1 hok
      rw [List.append_nil, List.nil_append, msgE_kinds2] at hrd
      have hgood := msgPlain_eq ho hp
      refine ⟨?_, ?_, ?_⟩
      · rw [he]
        rw [msgR_some hd]
        have e0 : ((a0.toNat : Nat) : Int) = a0 := Int.toNat_of_nonneg (by omega)
        rw [e0]
        unfold msgR2
        rw [ho]
        simp only
        rw [hrd]
        simp only [rdEnd, List.length_nil, if_true]
        obtain ⟨g1, g2, g3, g4⟩ := hgood
        unfold msgGood
        rw [g1, g2, g3, g4]
      · rw [he]
        intro x hx
        rcases List.mem_append.mp hx with hx | hx
        · exact numEnc_byt _ x hx
        · exact fl_byt _ x hx
      · rw [he]
        have := fl_len _ b1 hok
        have := len10 (n := a0.toNat) (by omega)
        simp only [List.length_append]
        omega
    · rw [if_neg hp] at hx; simp at hx
theorem msg_only (b : List Int) (hb : Byt b) (hl : b.length ≤ 140737488351232) (k x1 x2 : Int) (s : ByteArray) (x4 : Int) (h : msgR b = (k, x1, x2, s, x4, 0)) :
    msgB k x1 x2 s x4 = (b, 0) ∧ x1 ≤ 9223372036854775807 ∧ x2 ≤ 9223372036854775807 ∧ s.size ≤ 140737488351232 ∧ x4 ≤ 9223372036854775807 := by
  cases hd : dec 0 b with
  | none =>
    rw [msgR_none hd] at h
    unfold msgBad at h
    simp at h
  | some p =>
    obtain ⟨n, r⟩ := p
    obtain ⟨hr, hrm⟩ := dec_suf b 0 n r hd
    have he := (dec_enc b hb 0 n r hd).1
    rw [msgR_some hd] at h
    unfold msgR2 at h
    cases ho : msgOffs (n : Int) with
    | none => rw [ho] at h; unfold msgBad at h; simp at h
    | some os =>
      rw [ho] at h
      simp only at h
      cases hq : rdQ (os.map (· == 3)) r [] with
      | none => rw [hq] at h; simp only [rdEnd] at h; unfold msgBad at h; simp at h
      | some p =>
        obtain ⟨vs, q⟩ := p
        rw [hq] at h
        simp only [rdEnd] at h
        by_cases hz : q.length = 0
        · rw [if_pos hz] at h
          unfold msgGood at h
          simp only [Prod.mk.injEq] at h
          obtain ⟨rfl, rfl, rfl, rfl, rfl, _⟩ := h
          obtain ⟨us, e1, hu, hok, hB, hE⟩ := wr_of_rd _ _ _ _ _ (fun x hx => hb x (hrm x hx)) (by omega) hq
          rw [List.nil_append] at e1
          subst e1
          have hq0 : q = [] := List.eq_nil_of_length_eq_zero hz
          rw [hq0, List.append_nil] at hE
          refine ⟨?_, getN_b hB _, getN_b hB _, getS_b hB _, getN_b hB _⟩
          have key : msgPlain os (getN os vs 1) (getN os vs 2) (getS os vs 3) (getN os vs 4) = true ∧ msgE os (getN os vs 1) (getN os vs 2) (getS os vs 3) (getN os vs 4) = vs := by
            rcases msgOffs_cases ho with hs | hs
            · subst hs
              obtain ⟨v0, v1, v2, v3, rfl⟩ := len4 (by simpa using congrArg List.length hu)
              simp at hu
              obtain ⟨h0, h1, h2, h3⟩ := hu
              obtain ⟨x0, rfl⟩ : ∃ n, v0 = .inl n := by have q := kinds_cons h0; rw [if_neg (by decide)] at q; exact q
              obtain ⟨x1, rfl⟩ : ∃ n, v1 = .inl n := by have q := kinds_cons h1; rw [if_neg (by decide)] at q; exact q
              obtain ⟨x2, rfl⟩ : ∃ s, v2 = .inr s := by have q := kinds_cons h2; rw [if_pos rfl] at q; exact q
              obtain ⟨x3, rfl⟩ : ∃ n, v3 = .inl n := by have q := kinds_cons h3; rw [if_neg (by decide)] at q; exact q
              exact ⟨by simp [msgPlain, pickN, pickS, getN, getS], rfl⟩
            · subst hs
              obtain ⟨v0, v1, rfl⟩ := len2 (by simpa using congrArg List.length hu)
              simp at hu
              obtain ⟨h0, h1⟩ := hu
              obtain ⟨x0, rfl⟩ : ∃ n, v0 = .inl n := by have q := kinds_cons h0; rw [if_neg (by decide)] at q; exact q
              obtain ⟨x1, rfl⟩ : ∃ n, v1 = .inl n := by have q := kinds_cons h1; rw [if_neg (by decide)] at q; exact q
              exact ⟨by simp [msgPlain, pickN, pickS, getN, getS], rfl⟩
          unfold msgB
          rw [ho]
          simp only
          rw [if_pos key.1, msgFlds_E ho, key.2]
          have e : wrP vs (numEnc (n : Int).toNat) = some b := by
            unfold wrP
            rw [if_pos hok, Int.toNat_natCast, hE, he]
          rw [e]
          rfl
        · rw [if_neg hz] at h
          unfold msgBad at h
          simp at h

def soundB (a0 a1 a2 a3 a4 : Int) : Bool := if a0 = 0 then true else (a1 == 0 && (a2 == 0 && (a3 == 0 && (a4 == 0))))
theorem sound_f (a0 a1 a2 a3 a4 : Int) : wire_sound.f a0 a1 a2 a3 a4 = some (soundB a0 a1 a2 a3 a4) := by
  unfold wire_sound.f soundB
  split <;> rfl
def repB (a0 a1 a2 a3 a4 : Int) : List Int × Int := if soundB a0 a1 a2 a3 a4 = true then outB (wrP [.inl a0, .inl a1, .inl a2, .inl a3, .inl a4] []) else ([], 220)
theorem rep_b {a0 a1 a2 a3 a4 : Int} (h0 : a0 ≤ 9223372036854775807) (h1 : a1 ≤ 9223372036854775807) (h2 : a2 ≤ 9223372036854775807) (h3 : a3 ≤ 9223372036854775807) (h4 : a4 ≤ 9223372036854775807) : ∀ f ∈ ([.inl a0, .inl a1, .inl a2, .inl a3, .inl a4] : List (Int ⊕ ByteArray)), FldB f := by
  intro f hf
  simp only [List.mem_cons, List.not_mem_nil, or_false] at hf
  rcases hf with rfl | rfl | rfl | rfl | rfl <;> assumption
theorem repB_ev (a0 a1 a2 a3 a4 : Int) (h0 : a0 ≤ 9223372036854775807) (h1 : a1 ≤ 9223372036854775807) (h2 : a2 ≤ 9223372036854775807) (h3 : a3 ≤ 9223372036854775807) (h4 : a4 ≤ 9223372036854775807) : Ev (fun k => wire_ReplyBytes.f k a0 a1 a2 a3 a4) (repB a0 a1 a2 a3 a4) := by
  unfold wire_ReplyBytes.f repB
  rw [sound_f]
  refine Ev.bind (Ev.now _) ?_
  cases soundB a0 a1 a2 a3 a4 with
  | false => exact Ev.congr (f := fun _ => some ([], 220)) (fun _ => if_neg (by decide)) (Ev.now _)
  | true =>
    refine Ev.congr (f := fun k => (wireWr k [.inl a0, .inl a1, .inl a2, .inl a3, .inl a4] []).bind fun x => some (outB x)) (fun _ => if_pos rfl) ?_
    exact Ev.bind (wireWr_ev _ _ (rep_b h0 h1 h2 h3 h4) (by simp)) (Ev.now _)
def repBad : Int × Int × Int × Int × Int × Int := (0, 0, 0, 0, 0, 220)
def repR (b : List Int) : Int × Int × Int × Int × Int × Int :=
  match rdEnd (rdQ [false, false, false, false, false] b []) with
  | none => repBad
  | some vs => if soundB (nth5 vs 0) (nth5 vs 1) (nth5 vs 2) (nth5 vs 3) (nth5 vs 4) = true then (nth5 vs 0, nth5 vs 1, nth5 vs 2, nth5 vs 3, nth5 vs 4, 0) else repBad
def repG (x : Option (List (Int ⊕ ByteArray))) : Option (Int × Int × Int × Int × Int × Int) := match x with
    | none => some (0, 0, 0, 0, 0, 220)
    | some vs => (wire_sound.f (nth5 vs 0) (nth5 vs 1) (nth5 vs 2) (nth5 vs 3) (nth5 vs 4)).bind fun q => if q = true then some (nth5 vs 0, nth5 vs 1, nth5 vs 2, nth5 vs 3, nth5 vs 4, 0) else some (0, 0, 0, 0, 0, 220)
theorem rep_isG (k : Nat) (b : List Int) : wire_ReadReply.f k b = (wireRd k [false, false, false, false, false] b []).bind repG := rfl
theorem repR_ev (b : List Int) (hb : Byt b) (hl : b.length ≤ 140737488351232) : Ev (fun k => wire_ReadReply.f k b) (repR b) := by
  refine Ev.congr (rep_isG · b) ?_
  refine Ev.bind (wireRd_ev _ b [] hb hl) ?_
  unfold repR
  cases rdEnd (rdQ [false, false, false, false, false] b []) with
  | none => exact Ev.now _
  | some vs =>
    refine Ev.congr (f := fun _ => if soundB (nth5 vs 0) (nth5 vs 1) (nth5 vs 2) (nth5 vs 3) (nth5 vs 4) = true then some (nth5 vs 0, nth5 vs 1, nth5 vs 2, nth5 vs 3, nth5 vs 4, 0) else some repBad) (fun _ => ?_) ?_
    · unfold repG
      dsimp only
      rw [sound_f]
      rfl
    · dsimp only
      cases soundB (nth5 vs 0) (nth5 vs 1) (nth5 vs 2) (nth5 vs 3) (nth5 vs 4) with
      | true => exact Ev.now _
      | false => exact Ev.now _

theorem rep_round (a0 a1 a2 a3 a4 : Int) (h0 : a0 ≤ 9223372036854775807) (h1 : a1 ≤ 9223372036854775807) (h2 : a2 ≤ 9223372036854775807) (h3 : a3 ≤ 9223372036854775807) (h4 : a4 ≤ 9223372036854775807) (hx : (repB a0 a1 a2 a3 a4).2 = 0) :
    repR (repB a0 a1 a2 a3 a4).1 = (a0, a1, a2, a3, a4, 0) ∧ Byt (repB a0 a1 a2 a3 a4).1 ∧ (repB a0 a1 a2 a3 a4).1.length ≤ 140737488351232 := by
  unfold repB at hx ⊢
  by_cases hs : soundB a0 a1 a2 a3 a4 = true
  · rw [if_pos hs] at hx ⊢
    obtain ⟨r, hr, hro⟩ := outB_ok hx
    rw [hro]
    obtain ⟨hok, he⟩ := wrP_some hr
    have b1 := rep_b h0 h1 h2 h3 h4
    rw [List.nil_append] at he
    have hrd := rd_of_wr [.inl a0, .inl a1, .inl a2, .inl a3, .inl a4] [] [] b1 hok
    rw [List.append_nil, List.nil_append, ← he] at hrd
    refine ⟨?_, ?_, ?_⟩
    · have hrd2 : rdQ [false, false, false, false, false] r [] = some ([.inl a0, .inl a1, .inl a2, .inl a3, .inl a4], []) := hrd
      unfold repR
      show (match rdEnd (rdQ [false, false, false, false, false] r []) with | none => repBad | some vs => _) = _
      rw [hrd2]
      show (if soundB a0 a1 a2 a3 a4 = true then (a0, a1, a2, a3, a4, 0) else repBad) = _
      rw [if_pos hs]
    · rw [he]
      exact fl_byt _
    · rw [he]
      have := fl_len _ b1 hok
      simp only [List.length_cons, List.length_nil] at this
      exact Nat.le_trans this (by omega)
  · rw [if_neg hs] at hx; simp at hx
theorem rep_only (b : List Int) (hb : Byt b) (hl : b.length ≤ 140737488351232) (x0 x1 x2 x3 x4 : Int) (h : repR b = (x0, x1, x2, x3, x4, 0)) :
    repB x0 x1 x2 x3 x4 = (b, 0) ∧ x0 ≤ 9223372036854775807 ∧ x1 ≤ 9223372036854775807 ∧ x2 ≤ 9223372036854775807 ∧ x3 ≤ 9223372036854775807 ∧ x4 ≤ 9223372036854775807 := by
  unfold repR at h
  cases hq : rdQ [false, false, false, false, false] b [] with
  | none => rw [hq] at h; simp only [rdEnd] at h; unfold repBad at h; simp at h
  | some p =>
    obtain ⟨vs, q⟩ := p
    rw [hq] at h
    simp only [rdEnd] at h
    by_cases hz : q.length = 0
    · rw [if_pos hz] at h
      obtain ⟨us, e1, hu, hok, hB, hE⟩ := wr_of_rd _ _ _ _ _ hb hl hq
      rw [List.nil_append] at e1
      subst e1
      have hq0 : q = [] := List.eq_nil_of_length_eq_zero hz
      rw [hq0, List.append_nil] at hE
      obtain ⟨y0, y1, y2, y3, y4, rfl⟩ := nums5 hu
      have h' : (if soundB y0 y1 y2 y3 y4 = true then (y0, y1, y2, y3, y4, 0) else repBad) = (x0, x1, x2, x3, x4, 0) := h
      by_cases hs : soundB y0 y1 y2 y3 y4 = true
      · rw [if_pos hs] at h'
        simp only [Prod.mk.injEq] at h'
        obtain ⟨rfl, rfl, rfl, rfl, rfl, _⟩ := h'
        refine ⟨?_, hB (.inl y0) (by simp), hB (.inl y1) (by simp), hB (.inl y2) (by simp), hB (.inl y3) (by simp), hB (.inl y4) (by simp)⟩
        unfold repB
        rw [if_pos hs]
        have e : wrP [.inl y0, .inl y1, .inl y2, .inl y3, .inl y4] [] = some b := by
          unfold wrP
          rw [if_pos hok, List.nil_append, hE]
        rw [e]
        rfl
      · rw [if_neg hs] at h'
        unfold repBad at h'
        simp at h'
    · rw [if_neg hz] at h
      unfold repBad at h
      simp at h

theorem cut22 (l : List Int) : ∃ t, lienlaw22_cut.f l = some t ∧ t.length ≤ 5000 ∧ (∀ x ∈ t, x ∈ l) := by
  unfold lienlaw22_cut.f
  split
  · rw [if_pos (by omega)]
    exact ⟨_, rfl, by rw [List.length_take]; omega, fun x hx => List.mem_of_mem_take hx⟩
  · exact ⟨l, rfl, by omega, fun x hx => hx⟩

theorem msgR_cases (b : List Int) : (msgR b).2.2.2.2.2 = 0 ∨ msgR b = msgBad := by
  unfold msgR
  cases dec 0 b with
  | none => exact .inr rfl
  | some p =>
    obtain ⟨n, r⟩ := p
    simp only
    unfold msgR2
    cases msgOffs (n : Int) with
    | none => exact .inr rfl
    | some os =>
      simp only
      cases rdEnd (rdQ (os.map (· == 3)) r []) with
      | none => exact .inr rfl
      | some vs => exact .inl rfl
theorem outB_cases (x : Option (List Int)) : (outB x).2 = 0 ∨ outB x = ([], 220) := by
  cases x with
  | none => exact .inr rfl
  | some r => exact .inl rfl
theorem msgB_cases (a0 a1 a2 : Int) (a3 : ByteArray) (a4 : Int) : (msgB a0 a1 a2 a3 a4).2 = 0 ∨ msgB a0 a1 a2 a3 a4 = ([], 220) := by
  unfold msgB
  cases msgOffs a0 with
  | none => exact .inr rfl
  | some os =>
    simp only
    split
    · exact outB_cases _
    · exact .inr rfl

theorem only_j1 (t : List Int) (hb : Byt t) (hl : t.length ≤ 140737488351232) : Ev (fun k => lienlaw22_WireOnly.j1 k t) true := by
  refine Ev.step (fun k => by rw [lienlaw22_WireOnly.j1]) ?_
  refine Ev.bind (msgR_ev t hb hl) ?_
  obtain ⟨⟨m0, m1, m2, m3, m4, e⟩, hX⟩ : ∃ X, msgR t = X := ⟨_, rfl⟩
  have hc := msgR_cases t
  rw [hX] at hc ⊢
  dsimp only at hc ⊢
  by_cases he : e = 0
  · subst he
    obtain ⟨h1, b1, b2, b3, b4⟩ := msg_only t hb hl m0 m1 m2 m3 m4 hX
    refine Ev.congr (fun k => if_pos rfl) ?_
    refine Ev.bind (msgB_ev m0 m1 m2 m3 m4 b1 b2 b3 b4) ?_
    rw [h1]
    exact Ev.congr (f := fun _ => some true) (fun k => (if_pos rfl).trans (by simp)) (Ev.now true)
  · rcases hc with hc | hc
    · exact absurd hc he
    · unfold msgBad at hc
      simp only [Prod.mk.injEq] at hc
      obtain ⟨rfl, rfl, rfl, rfl, rfl, rfl⟩ := hc
      refine Ev.congr (f := fun _ => some true) (fun k => (if_neg (by decide)).trans ((if_pos rfl).trans ?_)) (Ev.now true)
      rw [bl_eq]
      rfl
theorem only_j0 (t : List Int) (hb : Byt t) (hl : t.length ≤ 140737488351232) : Ev (fun k => lienlaw22_WireOnly.j0 k t) true := by
  refine Ev.step (fun k => by rw [lienlaw22_WireOnly.j0]) ?_
  refine Ev.bind (repR_ev t hb hl) ?_
  obtain ⟨⟨m0, m1, m2, m3, m4, e⟩, hX⟩ : ∃ X, repR t = X := ⟨_, rfl⟩
  rw [hX]
  dsimp only
  by_cases he : e = 0
  · subst he
    obtain ⟨h1, b0, b1, b2, b3, b4⟩ := rep_only t hb hl m0 m1 m2 m3 m4 hX
    refine Ev.congr (fun k => if_pos rfl) ?_
    refine Ev.bind (repB_ev m0 m1 m2 m3 m4 b0 b1 b2 b3 b4) ?_
    rw [h1]
    exact Ev.congr (fun k => (if_pos rfl).trans (if_pos rfl)) (only_j1 t hb hl)
  · exact Ev.congr (fun k => if_neg he) (only_j1 t hb hl)
theorem WireOnly : lienlaw22_WireOnly.Pure := by
  intro l _ _ hw
  obtain ⟨t, ht, htl, htm⟩ := cut22 l
  have hb : Byt t := fun x hx => Byt.of_wf hw x (htm x hx)
  have hl : t.length ≤ 140737488351232 := by omega
  refine Ev.rounds ?_
  unfold lienlaw22_WireOnly.f
  refine Ev.bind (g := fun _ => lienlaw22_cut.f l) (a := t) (ht ▸ Ev.now t) ?_
  refine Ev.bind awake22 ?_
  refine Ev.congr (fun k => if_pos rfl) ?_
  refine Ev.bind (reqR_ev t hb hl) ?_
  obtain ⟨⟨m0, m1, m2, m3, m4, m5, m6, e⟩, hX⟩ : ∃ X, reqR t = X := ⟨_, rfl⟩
  rw [hX]
  dsimp only
  by_cases he : e = 0
  · subst he
    obtain ⟨h1, b1, b2, b3, b4, b5, b6⟩ := req_only t hb hl m0 m1 m2 m3 m4 m5 m6 hX
    refine Ev.congr (fun k => if_pos rfl) ?_
    refine Ev.bind (reqB_ev m0 m1 m2 m3 m4 m5 m6 b1 b2 b3 b4 b5 b6) ?_
    rw [h1]
    exact Ev.congr (fun k => (if_pos rfl).trans (if_pos rfl)) (only_j0 t hb hl)
  · exact Ev.congr (fun k => if_neg he) (only_j0 t hb hl)

end Go.Proofs.Ytklnnmgfoebbhaa.Pure
