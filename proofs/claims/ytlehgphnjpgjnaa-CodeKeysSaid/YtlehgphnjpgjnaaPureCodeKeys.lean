/- Written for the statement CodeKeys over the program's printed functions: numbers and lists alone. -/
import Derived.Test.YtlehgphnjpgjnaaPCodeKeysx
set_option linter.unusedVariables false
set_option linter.unusedSimpArgs false
namespace Go.Proofs.Ytlehgphnjpgjnaa.Pure
open Go.RowKit Go.Proofs.Ytlehgphnjpgjnaa.PCodeKeys Go.Proofs.YtlehgphnjpgjnaaW Go.Proofs.YtlehgphnjpgjnaaW.PrintWords Go.Proofs.YtlehgphnjpgjnaaW.PrintLast Go.Proofs.YtlehgphnjpgjnaaW.PrintMore

theorem wrap64_id {x : Int} (h0 : -9223372036854775808 ≤ x) (h1 : x ≤ 9223372036854775807) : wrap64 x = x := by unfold wrap64; omega
theorem wu64 (n : Int) : IntKind.u64.wrap n = n % 18446744073709551616 := by simp [IntKind.wrap, IntKind.bits, IntKind.signed]
theorem wraps_u64 (n : Int) (h0 : 0 ≤ n) (h1 : n < 2 ^ 64) : IntKind.u64.wrap n = n := by rw [wu64]; omega
theorem u64_and127 {x : Int} (h0 : 0 ≤ x) (h1 : x < 18446744073709551616) : Go.bits .and .u64 x 127 = x % 128 := Go.bits_mask .u64 64 (by decide) wraps_u64 7 (by decide) x h0 h1
theorem u8_and127 {x : Int} (h0 : 0 ≤ x) (h1 : x < 256) : Go.bits .and .u8 x 127 = x % 128 := Go.bits_mask .u8 8 (by decide) Go.wraps_u8 7 (by decide) x h0 h1
theorem bits_comm_or (k : IntKind) (x y : Int) : Go.bits .or k x y = Go.bits .or k y x := by simp [Go.bits, BitVec.or_comm]
theorem u8_or_128 {x : Int} (h0 : 0 ≤ x) (h1 : x < 128) : Go.bits .or .u8 x 128 = x + 128 := by
  rw [bits_comm_or, Go.bits_join .u8 8 (by decide) Go.wraps_u8 7 128 x (by decide) (by decide) (by decide) h0 h1 (by omega)]; omega
theorem u64_join (i : Nat) {x y : Int} (hx0 : 0 ≤ x) (hx : x % 2 ^ i = 0) (hx1 : x < 18446744073709551616) (hy0 : 0 ≤ y) (hy : y < 2 ^ i) (hy1 : y < 18446744073709551616) : Go.bits .or .u64 x y = x + y :=
  Go.bits_join .u64 64 (by decide) wraps_u64 i x y hx0 hx hx1 hy0 hy hy1
theorem wf_u64 {x : Int} (h : (Lit.int .u64 x).wf = true) : 0 ≤ x ∧ x < 18446744073709551616 := by
  simp [Lit.wf, IntKind.min, IntKind.max, IntKind.bits, IntKind.signed] at h; omega
theorem wf_u8 {x : Int} (h : (Lit.int .u8 x).wf = true) : 0 ≤ x ∧ x < 256 := by
  simp [Lit.wf, IntKind.min, IntKind.max, IntKind.bits, IntKind.signed] at h; omega
theorem wf_i64 {x : Int} (h : (Lit.int .i64 x).wf = true) : -9223372036854775808 ≤ x ∧ x ≤ 9223372036854775807 := by
  simp [Lit.wf, IntKind.min, IntKind.max, IntKind.bits, IntKind.signed] at h; omega
def Byt (l : List Int) : Prop := ∀ x ∈ l, 0 ≤ x ∧ x < 256
theorem Byt.of_wf {l : List Int} (h : ∀ x ∈ l, (Lit.int .u8 x).wf = true) : Byt l := fun x hx => wf_u8 (h x hx)
theorem Byt.rd {l : List Int} (h : Byt l) (i : Int) : 0 ≤ rd l i ∧ rd l i < 256 := by
  unfold PrintWords.rd
  rw [List.getD_eq_getElem?_getD]
  cases e : l[i.toNat]? with
  | none => simp
  | some x => exact h x (List.mem_of_getElem? e)
theorem Byt.take {l : List Int} (h : Byt l) (n : Nat) : Byt (l.take n) := fun x hx => h x (List.mem_of_mem_take hx)
theorem Byt.drop {l : List Int} (h : Byt l) (n : Nat) : Byt (l.drop n) := fun x hx => h x (List.mem_of_mem_drop hx)
theorem rd_nat (l : List Int) (i : Nat) : rd l (i : Int) = l.getD i 0 := by unfold PrintWords.rd; simp
theorem rd_drop {l : List Int} {i : Nat} (h : i < l.length) : l.drop i = rd l (i : Int) :: l.drop (i + 1) := by
  rw [rd_nat, List.drop_eq_getElem_cons h]; simp [List.getD_eq_getElem?_getD, List.getElem?_eq_getElem h]

theorem bl_eq (s : ByteArray) : s.toList = s.data.toList := ByteArray.toList_eq s
theorem ba_ext {a b : ByteArray} (h : a.toList = b.toList) : a = b := by
  rw [bl_eq, bl_eq] at h
  exact ByteArray.ext (Array.toList_inj.mp h)
theorem bl_len (s : ByteArray) : s.toList.length = s.size := by rw [bl_eq, Array.length_toList]; rfl
theorem bl_append (a b : ByteArray) : (a ++ b).toList = a.toList ++ b.toList := by rw [bl_eq, bl_eq, bl_eq, ByteArray.data_append, Array.toList_append]
theorem bl_extract (a : ByteArray) (i j : Nat) : (a.extract i j).toList = (a.toList.take j).drop i := by
  rw [bl_eq, bl_eq, ByteArray.data_extract, Array.toList_extract, List.extract_eq_take_drop, List.drop_take]
theorem bl_nums (xs : List Int) : (strOfNums xs).toList = xs.map fun n => UInt8.ofNat n.toNat := by rw [bl_eq]; rfl
theorem bt_nat (s : ByteArray) (i : Nat) (h : i < s.size) : bt s (i : Int) = ((s.toList[i]'(by rw [bl_len]; exact h)).toNat : Int) := by
  unfold PrintWords.bt
  rw [dif_pos (by simpa using h)]
  simp only [Int.toNat_natCast, bl_eq]
  rfl
theorem bl_bytesOf (s : ByteArray) : bytesOf s = s.toList.map fun b => (b.toNat : Int) := by unfold PrintWords.bytesOf; rw [bl_eq]
theorem less_app (p x y : List UInt8) : Op.bytesLess (p ++ x) (p ++ y) = Op.bytesLess x y := by
  induction p with
  | nil => rfl
  | cons c t ih => simp [Op.bytesLess, ih, UInt8.lt_irrefl]
theorem less_next {c d : UInt8} (h : c.toNat < d.toNat) (x y : List UInt8) : Op.bytesLess (c :: x) (d :: y) = true := by
  simp only [Op.bytesLess]
  rw [decide_eq_true (UInt8.lt_iff_toNat_lt.mpr h)]
  rfl

def escI (c : Int) : List Int := if c = 0 then [0, 255] else [c]
def encI (p : ByteArray) : List Int := (bytesOf p).flatMap escI ++ [0, 1]
def keyI (ps : List ByteArray) : List Int := ps.flatMap encI
def esc (c : UInt8) : List UInt8 := if c = 0 then [0, 255] else [c]
def enc1 (p : List UInt8) : List UInt8 := p.flatMap esc ++ [0, 1]
def encK (ps : List (List UInt8)) : List UInt8 := ps.flatMap enc1
def back8 (n : Int) : UInt8 := UInt8.ofNat n.toNat
theorem back_esc (c : UInt8) : (escI (c.toNat : Int)).map back8 = esc c := by
  unfold escI esc
  by_cases h : c = 0
  · subst h; rfl
  · rw [if_neg h, if_neg (fun e => h (UInt8.toNat_inj.mp (by simpa using e)))]
    simp [back8]
theorem back_flat (l : List UInt8) : ((l.map fun b => (b.toNat : Int)).flatMap escI).map back8 = l.flatMap esc := by
  induction l with
  | nil => rfl
  | cons c t ih => simp only [List.map_cons, List.flatMap_cons, List.map_append, ih, back_esc]
theorem back_enc (p : ByteArray) : (encI p).map back8 = enc1 p.toList := by
  unfold encI enc1
  rw [List.map_append, bl_bytesOf, back_flat]; rfl
theorem key_list (ps : List ByteArray) : (strOfNums (keyI ps)).toList = encK (ps.map ByteArray.toList) := by
  rw [bl_nums]
  show (keyI ps).map back8 = _
  unfold keyI encK
  induction ps with
  | nil => rfl
  | cons p t ih => simp only [List.flatMap_cons, List.map_append, List.map_cons, ih, back_enc]
theorem escI_len (c : Int) : (escI c).length ≤ 2 := by unfold escI; split <;> simp
theorem flat_len (l : List Int) : (l.flatMap escI).length ≤ 2 * l.length := by
  induction l with
  | nil => simp
  | cons c t ih => rw [List.flatMap_cons, List.length_append, List.length_cons]; have := escI_len c; omega
theorem encI_len (p : ByteArray) : (encI p).length ≤ 2 * p.size + 2 := by
  unfold encI
  have := flat_len (bytesOf p)
  rw [bytesOf_length] at this
  rw [List.length_append]
  simp only [List.length_cons, List.length_nil]
  omega
theorem keyI_cons (p : ByteArray) (t : List ByteArray) : keyI (p :: t) = encI p ++ keyI t := by rw [keyI, keyI, List.flatMap_cons]
theorem keyI_len (ps : List ByteArray) (h : ∀ p ∈ ps, p.size ≤ 4096) : (keyI ps).length ≤ ps.length * 8194 := by
  unfold keyI
  induction ps with
  | nil => simp
  | cons p t ih =>
    have h1 := encI_len p
    have h2 := h p (List.mem_cons_self ..)
    have h3 := ih (fun x hx => h x (List.mem_cons_of_mem _ hx))
    rw [List.flatMap_cons, List.length_append, List.length_cons]
    omega
theorem rdOf_nat (l : List ByteArray) (i : Nat) (h : i < l.length) : rdOf ByteArray.empty l (i : Int) = l[i] := by
  unfold PrintWords.rdOf
  rw [Int.toNat_natCast, List.getD_eq_getElem?_getD, List.getElem?_eq_getElem h]; rfl
theorem bytesOf_drop (p : ByteArray) (i : Nat) (h : i < p.size) : (bytesOf p).drop i = bt p (i : Int) :: (bytesOf p).drop (i + 1) := by
  rw [rd_drop (by rw [bytesOf_length]; exact h), rd_bytesOf]

theorem code_Key_l1 (p : ByteArray) (hp : p.size ≤ 140737488351232) (ps : List ByteArray) (j : Int) (d : Nat) : ∀ (i k : Nat) (acc : List Int), p.size - i = d → i ≤ p.size → acc.length + (((bytesOf p).drop i).flatMap escI).length + 2 < 140737488355328 → j < 9223372036854775807 → 0 ≤ j →
    code_Key.l1 (k + d + 1) acc p (i : Int) ps (ps.length : Int) j = code_Key.l0 k (acc ++ ((bytesOf p).drop i).flatMap escI ++ [0, 1]) ps (ps.length : Int) (j + 1) := by
  induction d with
  | zero =>
    intro i k acc hd hi hl hj hj0
    have e : (bytesOf p).drop i = [] := List.drop_eq_nil_of_le (by rw [bytesOf_length]; omega)
    rw [e] at hl ⊢
    rw [code_Key.l1, if_neg (by omega), Option.bind_some, if_pos (by simp at hl ⊢; omega), wrap64_id (by omega) (by omega)]
    simp
  | succ d ih =>
    intro i k acc hd hi hl hj hj0
    have hlt : i < p.size := by omega
    rw [bytesOf_drop p i hlt] at hl ⊢
    rw [List.flatMap_cons, List.length_append] at hl
    rw [show k + (d + 1) + 1 = (k + d + 1) + 1 by omega, code_Key.l1, if_pos (by omega), if_pos (by omega)]
    by_cases c : bt p (i : Int) = 0
    · have el : (escI (bt p (i : Int))).length = 2 := by rw [escI, if_pos c]; rfl
      rw [if_pos (by omega), Option.bind_some, if_pos c, if_pos (by simp; omega), wrap64_id (by omega) (by omega)]
      have := ih (i + 1) k (acc ++ [bt p (i : Int)] ++ [255]) (by omega) (by omega) (by simp only [List.length_append, List.length_cons, List.length_nil]; omega) hj hj0
      rw [show ((i : Int) + 1) = ((i + 1 : Nat) : Int) by omega, this, List.flatMap_cons, escI, if_pos c, c]
      simp
    · have el : (escI (bt p (i : Int))).length = 1 := by rw [escI, if_neg c]; rfl
      rw [if_pos (by omega), Option.bind_some, if_neg c, wrap64_id (by omega) (by omega)]
      have := ih (i + 1) k (acc ++ [bt p (i : Int)]) (by omega) (by omega) (by simp only [List.length_append, List.length_cons, List.length_nil]; omega) hj hj0
      rw [show ((i : Int) + 1) = ((i + 1 : Nat) : Int) by omega, this, List.flatMap_cons, escI, if_neg c]
      simp
def keyRounds : List ByteArray → Nat
  | [] => 1
  | p :: t => p.size + 2 + keyRounds t
theorem code_Key_l0 (ps : List ByteArray) (hps : ps.length ≤ 8) (d : Nat) : ∀ (i k : Nat) (acc : List Int), ps.length - i = d → i ≤ ps.length → (∀ p ∈ ps, p.size ≤ 140737488351232) → acc.length + (keyI (ps.drop i)).length < 140737488355328 → keyRounds (ps.drop i) ≤ k →
    code_Key.l0 k acc ps (ps.length : Int) (i : Int) = some (strOfNums (acc ++ keyI (ps.drop i)), 0) := by
  induction d with
  | zero =>
    intro i k acc hd hi hs hl hk
    have e : ps.drop i = [] := List.drop_eq_nil_of_le (by omega)
    rw [e] at hk ⊢
    simp only [keyRounds] at hk
    obtain ⟨k, rfl⟩ : ∃ m, k = m + 1 := ⟨k - 1, by omega⟩
    rw [code_Key.l0, if_neg (by omega)]
    simp [keyI]
  | succ d ih =>
    intro i k acc hd hi hs hl hk
    have hlt : i < ps.length := by omega
    have e : ps.drop i = ps[i] :: ps.drop (i + 1) := List.drop_eq_getElem_cons hlt
    rw [e] at hk hl ⊢
    simp only [keyRounds] at hk
    have hl2 : acc.length + ((encI ps[i]).length + (keyI (ps.drop (i + 1))).length) < 140737488355328 := by
      rw [keyI_cons, List.length_append] at hl
      exact hl
    have el : (encI ps[i]).length = ((bytesOf ps[i]).flatMap escI).length + 2 := by simp [encI]
    obtain ⟨k, rfl⟩ : ∃ m, k = m + 1 := ⟨k - 1, by omega⟩
    rw [code_Key.l0, if_pos (by omega), if_pos (by omega), if_pos (by omega), rdOf_nat ps i hlt]
    obtain ⟨k2, hk2⟩ : ∃ m, k = m + ps[i].size + 1 := ⟨k - ps[i].size - 1, by omega⟩
    have h1 := code_Key_l1 ps[i] (hs _ (List.getElem_mem _)) ps (i : Int) ps[i].size 0 k2 acc (by omega) (by omega) (by rw [List.drop_zero]; omega) (by omega) (by omega)
    rw [List.drop_zero] at h1
    rw [hk2, show (0 : Int) = ((0 : Nat) : Int) from rfl, h1, show ((i : Int) + 1) = ((i + 1 : Nat) : Int) by omega]
    rw [ih (i + 1) k2 _ (by omega) (by omega) hs (by simp only [List.length_append, List.length_cons, List.length_nil]; omega) (by omega)]
    rw [keyI_cons, encI]
    simp only [List.append_assoc]
    rfl
theorem code_Key_ev (ps : List ByteArray) (hs : ∀ p ∈ ps, p.size ≤ 140737488351232) (hl : (keyI ps).length < 140737488355328) : Ev (fun k => code_Key.f k ps) (if ps.length ≤ 8 then (strOfNums (keyI ps), 0) else ((⟨#[]⟩ : ByteArray), 3)) := by
  refine ⟨keyRounds ps, fun k hk => ?_⟩
  show code_Key.f k ps = _
  unfold code_Key.f
  by_cases h : ps.length ≤ 8
  · rw [if_neg (by omega), if_pos h]
    have := code_Key_l0 ps h ps.length 0 k [] (by omega) (by omega) hs (by simpa using hl) (by simpa using hk)
    simpa using this
  · rw [if_pos (by omega), if_neg h]

def shortB (s : ByteArray) : ByteArray := if s.size > 4096 then s.extract 0 4096 else s
theorem shortB_size (s : ByteArray) : (shortB s).size ≤ 4096 := by
  unfold shortB
  split
  · rw [ByteArray.size_extract]; omega
  · omega
theorem short_val (s : ByteArray) : lienlaw02_short.f s = some (shortB s) := by
  unfold lienlaw02_short.f shortB
  by_cases h : s.size > 4096
  · rw [if_pos (by omega), if_pos (by omega), if_pos (by omega), if_pos h]
  · rw [if_neg (by omega), if_neg h]
def rowsOf (l : List ByteArray) : List ByteArray := (l.take 9).map shortB
theorem rowsOf_small (l : List ByteArray) : ∀ p ∈ rowsOf l, p.size ≤ 4096 := fun p hp => by
  obtain ⟨q, _, rfl⟩ := List.mem_map.mp hp
  exact shortB_size q
theorem rowsOf_len (l : List ByteArray) : (rowsOf l).length ≤ 9 := by unfold rowsOf; rw [List.length_map, List.length_take]; omega
theorem rows_l0 (l : List ByteArray) (d : Nat) : ∀ (i k : Nat) (acc : List ByteArray), 9 - i = d → i ≤ 9 → acc.length ≤ i → d + 1 ≤ k →
    lienlaw02_rows.l0 k l acc (i : Int) = some (acc ++ ((l.take 9).drop i).map shortB) := by
  induction d with
  | zero =>
    intro i k acc hd hi ha hk
    obtain ⟨k, rfl⟩ : ∃ m, k = m + 1 := ⟨k - 1, by omega⟩
    have e : (l.take 9).drop i = [] := List.drop_eq_nil_of_le (by rw [List.length_take]; omega)
    rw [lienlaw02_rows.l0, e]
    split
    · rw [if_neg (by omega)]; simp
    · simp
  | succ d ih =>
    intro i k acc hd hi ha hk
    obtain ⟨k, rfl⟩ : ∃ m, k = m + 1 := ⟨k - 1, by omega⟩
    rw [lienlaw02_rows.l0]
    by_cases h : i < l.length
    · rw [if_pos (by omega), if_pos (by omega), if_pos (by omega), rdOf_nat l i h, short_val, Option.bind_some, if_pos (by omega), wrap64_id (by omega) (by omega)]
      have ht : i < (l.take 9).length := by rw [List.length_take]; omega
      have e : (l.take 9).drop i = l[i] :: (l.take 9).drop (i + 1) := by
        rw [List.drop_eq_getElem_cons ht]; simp
      have := ih (i + 1) k (acc ++ [shortB l[i]]) (by omega) (by omega) (by simp; omega) (by omega)
      rw [show ((i : Int) + 1) = ((i + 1 : Nat) : Int) by omega, this, e]
      simp
    · have e : (l.take 9).drop i = [] := List.drop_eq_nil_of_le (by rw [List.length_take]; omega)
      rw [if_neg (by omega), e]; simp
theorem rows_ev (l : List ByteArray) : Ev (fun k => lienlaw02_rows.f k l) (rowsOf l) := ⟨10, fun k hk => by
  have := rows_l0 l 9 0 k [] (by omega) (by omega) (by simp) (by omega)
  simpa [lienlaw02_rows.f, rowsOf] using this⟩
theorem rows_key (l : List ByteArray) : (keyI (rowsOf l)).length < 140737488355328 := by
  have h1 := keyI_len (rowsOf l) (rowsOf_small l)
  have h2 := rowsOf_len l
  have : (rowsOf l).length * 8194 ≤ 9 * 8194 := Nat.mul_le_mul_right _ h2
  omega

theorem ref_Key_l1 (ps : List ByteArray) (j : Nat) (hj : j < ps.length) (hps : ps.length ≤ 8) (hp : ps[j].size ≤ 140737488351232) (d : Nat) : ∀ (i k : Nat) (acc : List Int), ps[j].size - i = d → i ≤ ps[j].size → acc.length + (((bytesOf ps[j]).drop i).flatMap escI).length + 2 < 140737488355328 →
    lienref02_Key.l1 (k + d + 1) ps acc (j : Int) (i : Int) = lienref02_Key.l0 k ps (acc ++ ((bytesOf ps[j]).drop i).flatMap escI ++ [0, 1]) ((j + 1 : Nat) : Int) := by
  induction d with
  | zero =>
    intro i k acc hd hi hl
    have e : (bytesOf ps[j]).drop i = [] := List.drop_eq_nil_of_le (by rw [bytesOf_length]; omega)
    rw [e] at hl ⊢
    rw [lienref02_Key.l1, if_pos (by omega), if_pos (by omega), rdOf_nat ps j hj, if_neg (by omega), Option.bind_some, if_pos (by simp at hl ⊢; omega), wrap64_id (by omega) (by omega)]
    simp
  | succ d ih =>
    intro i k acc hd hi hl
    have hlt : i < ps[j].size := by omega
    rw [bytesOf_drop ps[j] i hlt] at hl ⊢
    rw [List.flatMap_cons, List.length_append] at hl
    rw [show k + (d + 1) + 1 = (k + d + 1) + 1 by omega, lienref02_Key.l1, if_pos (by omega), if_pos (by omega), rdOf_nat ps j hj, if_pos (by omega), if_pos (by omega)]
    by_cases c : bt ps[j] (i : Int) = 0
    · have el : (escI (bt ps[j] (i : Int))).length = 2 := by rw [escI, if_pos c]; rfl
      rw [if_pos (by omega), Option.bind_some, if_pos c, if_pos (by simp; omega), wrap64_id (by omega) (by omega)]
      have := ih (i + 1) k (acc ++ [bt ps[j] (i : Int)] ++ [255]) (by omega) (by omega) (by simp only [List.length_append, List.length_cons, List.length_nil]; omega)
      rw [show ((i : Int) + 1) = ((i + 1 : Nat) : Int) by omega, this, List.flatMap_cons, escI, if_pos c, c]
      simp
    · have el : (escI (bt ps[j] (i : Int))).length = 1 := by rw [escI, if_neg c]; rfl
      rw [if_pos (by omega), Option.bind_some, if_neg c, wrap64_id (by omega) (by omega)]
      have := ih (i + 1) k (acc ++ [bt ps[j] (i : Int)]) (by omega) (by omega) (by simp only [List.length_append, List.length_cons, List.length_nil]; omega)
      rw [show ((i : Int) + 1) = ((i + 1 : Nat) : Int) by omega, this, List.flatMap_cons, escI, if_neg c]
      simp
theorem ref_Key_l0 (ps : List ByteArray) (hps : ps.length ≤ 8) (d : Nat) : ∀ (i k : Nat) (acc : List Int), ps.length - i = d → i ≤ ps.length → (∀ p ∈ ps, p.size ≤ 140737488351232) → acc.length + (keyI (ps.drop i)).length < 140737488355328 → keyRounds (ps.drop i) ≤ k →
    lienref02_Key.l0 k ps acc (i : Int) = some (strOfNums (acc ++ keyI (ps.drop i)), 0) := by
  induction d with
  | zero =>
    intro i k acc hd hi hs hl hk
    have e : ps.drop i = [] := List.drop_eq_nil_of_le (by omega)
    rw [e] at hk ⊢
    simp only [keyRounds] at hk
    obtain ⟨k, rfl⟩ : ∃ m, k = m + 1 := ⟨k - 1, by omega⟩
    rw [lienref02_Key.l0, if_neg (by omega)]
    simp [keyI]
  | succ d ih =>
    intro i k acc hd hi hs hl hk
    have hlt : i < ps.length := by omega
    have e : ps.drop i = ps[i] :: ps.drop (i + 1) := List.drop_eq_getElem_cons hlt
    rw [e] at hk hl ⊢
    simp only [keyRounds] at hk
    have hl2 : acc.length + ((encI ps[i]).length + (keyI (ps.drop (i + 1))).length) < 140737488355328 := by
      rw [keyI_cons, List.length_append] at hl
      exact hl
    have el : (encI ps[i]).length = ((bytesOf ps[i]).flatMap escI).length + 2 := by simp [encI]
    obtain ⟨k, rfl⟩ : ∃ m, k = m + 1 := ⟨k - 1, by omega⟩
    rw [lienref02_Key.l0, if_pos (by omega)]
    obtain ⟨k2, hk2⟩ : ∃ m, k = m + ps[i].size + 1 := ⟨k - ps[i].size - 1, by omega⟩
    have h1 := ref_Key_l1 ps i hlt hps (hs _ (List.getElem_mem _)) ps[i].size 0 k2 acc (by omega) (by omega) (by rw [List.drop_zero]; omega)
    rw [List.drop_zero] at h1
    rw [hk2, show (0 : Int) = ((0 : Nat) : Int) from rfl, h1]
    rw [ih (i + 1) k2 _ (by omega) (by omega) hs (by simp only [List.length_append, List.length_cons, List.length_nil]; omega) (by omega)]
    rw [keyI_cons, encI]
    simp only [List.append_assoc]
    rfl
theorem ref_Key_ev (ps : List ByteArray) (hs : ∀ p ∈ ps, p.size ≤ 140737488351232) (hl : (keyI ps).length < 140737488355328) : Ev (fun k => lienref02_Key.f k ps) (if ps.length ≤ 8 then (strOfNums (keyI ps), 0) else ((⟨#[]⟩ : ByteArray), 3)) := by
  refine ⟨keyRounds ps, fun k hk => ?_⟩
  show lienref02_Key.f k ps = _
  unfold lienref02_Key.f
  by_cases h : ps.length ≤ 8
  · rw [if_neg (by omega), if_pos h]
    have := ref_Key_l0 ps h ps.length 0 k [] (by omega) (by omega) hs (by simpa using hl) (by simpa using hk)
    simpa using this
  · rw [if_pos (by omega), if_neg h]

def decI : List Int → List ByteArray → List Int → Bool → (List ByteArray × Int)
  | [], out, _, op => if op = true then ([], 20) else if (out.length : Int) > 8 then ([], 20) else (out, 0)
  | [c], _, _, _ => if c = 0 then ([], 20) else ([], 20)
  | c :: d :: t, out, part, _ => if c = 0 then (if d = 255 then decI t out (part ++ [0]) true else if d = 1 then decI t (out ++ [strOfNums part]) [] false else ([], 20)) else decI (d :: t) out (part ++ [c]) true
theorem decI_ne {c : Int} (h : c ≠ 0) (l : List Int) (out : List ByteArray) (part : List Int) (op : Bool) : decI (c :: l) out part op = decI l out (part ++ [c]) true := by
  cases l with
  | nil => rw [decI.eq_2, if_neg h, decI.eq_1, if_pos rfl]
  | cons d t => rw [decI.eq_3, if_neg h]
theorem decI_op (l : List Int) (h : l ≠ []) (out : List ByteArray) (part : List Int) (o1 o2 : Bool) : decI l out part o1 = decI l out part o2 := by
  cases l with
  | nil => exact absurd rfl h
  | cons c l => cases l with
    | nil => rw [decI.eq_2, decI.eq_2]
    | cons d t => rw [decI.eq_3, decI.eq_3]
def partsOf (key : ByteArray) : List ByteArray × Int := decI (bytesOf key) [] [] false

theorem code_Parts_l (key : ByteArray) (hs : key.size ≤ 16384) : ∀ d : Nat,
    (∀ (i k : Nat) (out : List ByteArray) (part : List Int), key.size - i = d → i ≤ key.size → part.length + d ≤ 16384 → out.length + d ≤ 16384 → 2 * d + 1 ≤ k →
      code_Parts.l1 k key out part (i : Int) = some (decI ((bytesOf key).drop i) out part true)) ∧
    (∀ (i k : Nat) (out : List ByteArray) (part : List Int), key.size - i = d → i ≤ key.size → out.length + d ≤ 16384 → 2 * d + 2 ≤ k →
      code_Parts.l0 k key out part (i : Int) = some (decI ((bytesOf key).drop i) out [] false)) := by
  intro d
  induction d using Nat.strongRecOn with
  | _ d ih =>
  have H1 : ∀ (i k : Nat) (out : List ByteArray) (part : List Int), key.size - i = d → i ≤ key.size → part.length + d ≤ 16384 → out.length + d ≤ 16384 → 2 * d + 1 ≤ k →
      code_Parts.l1 k key out part (i : Int) = some (decI ((bytesOf key).drop i) out part true) := by
    intro i k out part hd hi hp ho hk
    obtain ⟨k, rfl⟩ : ∃ m, k = m + 1 := ⟨k - 1, by omega⟩
    rw [code_Parts.l1]
    by_cases hlt : i < key.size
    · rw [if_pos (by omega), if_pos (by omega), bytesOf_drop key i hlt, wrap64_id (by omega) (by omega)]
      by_cases c : bt key (i : Int) = 0
      · rw [if_pos c]
        by_cases hend : i + 1 = key.size
        · rw [if_pos (by omega)]
          have e : (bytesOf key).drop (i + 1) = [] := List.drop_eq_nil_of_le (by rw [bytesOf_length]; omega)
          rw [e, decI, if_pos c]
        · have h2 : i + 1 < key.size := by omega
          rw [if_neg (by omega), if_pos (by omega), if_pos (by omega), bytesOf_drop key (i + 1) h2, decI, if_pos c, wrap64_id (by omega) (by omega)]
          rw [show ((i : Int) + 1) = ((i + 1 : Nat) : Int) by omega, show (((i + 1 : Nat) : Int) + 1) = ((i + 1 + 1 : Nat) : Int) by omega]
          by_cases b : bt key ((i + 1 : Nat) : Int) = 255
          · rw [if_pos b, if_pos b, if_pos (by omega)]
            exact (ih (d - 2) (by omega)).1 (i + 1 + 1) k out _ (by omega) (by omega) (by simp only [List.length_append, List.length_cons, List.length_nil]; omega) (by omega) (by omega)
          · rw [if_neg b, if_neg b]
            by_cases b1 : bt key ((i + 1 : Nat) : Int) = 1
            · rw [if_pos b1, if_pos b1, if_pos (by omega)]
              exact (ih (d - 2) (by omega)).2 (i + 1 + 1) k _ _ (by omega) (by omega) (by simp only [List.length_append, List.length_cons, List.length_nil]; omega) (by omega)
            · rw [if_neg b1, if_neg b1]
      · rw [if_neg c, if_pos (by omega), decI_ne c, show ((i : Int) + 1) = ((i + 1 : Nat) : Int) by omega]
        exact (ih (d - 1) (by omega)).1 (i + 1) k out _ (by omega) (by omega) (by simp only [List.length_append, List.length_cons, List.length_nil]; omega) (by omega) (by omega)
    · rw [if_neg (by omega)]
      have e : (bytesOf key).drop i = [] := List.drop_eq_nil_of_le (by rw [bytesOf_length]; omega)
      rw [e, decI, if_pos rfl]
  refine ⟨H1, ?_⟩
  intro i k out part hd hi ho hk
  obtain ⟨k, rfl⟩ : ∃ m, k = m + 1 := ⟨k - 1, by omega⟩
  rw [code_Parts.l0]
  by_cases hlt : i < key.size
  · rw [if_pos (by omega), if_pos (by omega), show part.take (0 : Int).toNat = [] from rfl, H1 i k out [] hd hi (by simp only [List.length_nil]; omega) ho (by omega)]
    rw [decI_op _ (by rw [bytesOf_drop key i hlt]; exact List.cons_ne_nil _ _) out [] true false]
  · rw [if_neg (by omega)]
    have e : (bytesOf key).drop i = [] := List.drop_eq_nil_of_le (by rw [bytesOf_length]; omega)
    rw [e, decI.eq_1]
    simp only [Bool.false_eq_true, if_false]
    by_cases c : (out.length : Int) > 8
    · rw [if_pos c, if_pos c]
    · rw [if_neg c, if_neg c]
theorem code_Parts_ev (key : ByteArray) (hs : key.size ≤ 16384) : Ev (fun k => code_Parts.f k key) (partsOf key) := ⟨2 * key.size + 2, fun k hk => by
  have := (code_Parts_l key hs key.size).2 0 k [] [] (by omega) (by omega) (by simp only [List.length_nil]; omega) hk
  rw [List.drop_zero] at this
  exact this⟩

theorem ref_Parts_l (key : ByteArray) (hs : key.size ≤ 16384) : ∀ (d i k : Nat) (out : List ByteArray) (part : List Int) (op : Bool), key.size - i = d → i ≤ key.size → part.length + d ≤ 16384 → out.length + d ≤ 16384 → 2 * d + 1 ≤ k →
      lienref02_Parts.l0 k key out part op (i : Int) = some (decI ((bytesOf key).drop i) out part op) := by
  intro d
  induction d using Nat.strongRecOn with
  | _ d ih =>
  intro i k out part op hd hi hp ho hk
  obtain ⟨k, rfl⟩ : ∃ m, k = m + 1 := ⟨k - 1, by omega⟩
  rw [lienref02_Parts.l0]
  by_cases hlt : i < key.size
  · rw [if_pos (by omega), if_pos (by omega), bytesOf_drop key i hlt, wrap64_id (by omega) (by omega)]
    by_cases c : bt key (i : Int) = 0
    · obtain ⟨k, rfl⟩ : ∃ m, k = m + 1 := ⟨k - 1, by omega⟩
      rw [if_pos c]
      by_cases hend : i + 1 = key.size
      · rw [if_pos (by omega)]
        have e : (bytesOf key).drop (i + 1) = [] := List.drop_eq_nil_of_le (by rw [bytesOf_length]; omega)
        rw [e, decI, if_pos c, lienref02_Parts.j1, if_pos rfl]
      · have h2 : i + 1 < key.size := by omega
        rw [if_neg (by omega), if_pos (by omega), if_pos (by omega), bytesOf_drop key (i + 1) h2, decI, if_pos c]
        rw [show ((i : Int) + 1) = ((i + 1 : Nat) : Int) by omega]
        by_cases b1 : bt key ((i + 1 : Nat) : Int) = 1
        · rw [if_pos b1, if_neg (show ¬ bt key ((i + 1 : Nat) : Int) = 255 by omega), if_pos b1, lienref02_Parts.j1, if_neg (by decide), if_pos (by omega), if_pos (by omega), if_neg (show ¬ bt key ((i + 1 : Nat) : Int) = 255 by omega), if_pos (by omega), wrap64_id (by omega) (by omega), show (((i + 1 : Nat) : Int) + 1) = ((i + 1 + 1 : Nat) : Int) by omega]
          exact ih (d - 2) (by omega) (i + 1 + 1) k _ _ _ (by omega) (by omega) (by simp only [List.length_nil]; omega) (by simp only [List.length_append, List.length_cons, List.length_nil]; omega) (by omega)
        · rw [if_neg b1]
          by_cases b : bt key ((i + 1 : Nat) : Int) = 255
          · rw [if_pos b, lienref02_Parts.j1, b, if_neg (by decide), if_pos (by omega), if_pos (by omega), if_pos rfl, if_pos (by omega), wrap64_id (by omega) (by omega), show (((i + 1 : Nat) : Int) + 1) = ((i + 1 + 1 : Nat) : Int) by omega]
            exact ih (d - 2) (by omega) (i + 1 + 1) k _ _ _ (by omega) (by omega) (by simp only [List.length_append, List.length_cons, List.length_nil]; omega) (by omega) (by omega)
          · rw [if_neg b, if_neg b1, lienref02_Parts.j1, if_pos (bne_iff_ne.mpr b)]
    · rw [if_neg c, if_pos (by omega), decI_ne c, show ((i : Int) + 1) = ((i + 1 : Nat) : Int) by omega]
      exact ih (d - 1) (by omega) (i + 1) k out _ _ (by omega) (by omega) (by simp only [List.length_append, List.length_cons, List.length_nil]; omega) (by omega) (by omega)
  · rw [if_neg (by omega)]
    have e : (bytesOf key).drop i = [] := List.drop_eq_nil_of_le (by rw [bytesOf_length]; omega)
    rw [e, decI]
    by_cases c0 : op = true
    · rw [if_pos c0, if_pos c0]
    · rw [if_neg c0, if_neg c0]
      by_cases c : (out.length : Int) > 8
      · rw [if_pos c, if_pos c]
      · rw [if_neg c, if_neg c]
theorem ref_Parts_ev (key : ByteArray) (hs : key.size ≤ 16384) : Ev (fun k => lienref02_Parts.f k key) (partsOf key) := ⟨2 * key.size + 2, fun k hk => by
  have := ref_Parts_l key hs key.size 0 k [] [] false (by omega) (by omega) (by simp only [List.length_nil]; omega) (by simp only [List.length_nil]; omega) (by omega)
  rw [List.drop_zero] at this
  exact this⟩

theorem same_l0 (a b : List ByteArray) (h : a.map ByteArray.toList = b.map ByteArray.toList) (ha : a.length < 9223372036854775807) (d : Nat) : ∀ (i k : Nat), a.length - i = d → i ≤ a.length → d + 1 ≤ k → lienlaw02_same.l0 k a b (i : Int) = some true := by
  have hl : a.length = b.length := by have := congrArg List.length h; simpa using this
  induction d with
  | zero =>
    intro i k hd hi hk
    obtain ⟨k, rfl⟩ : ∃ m, k = m + 1 := ⟨k - 1, by omega⟩
    rw [lienlaw02_same.l0, if_neg (by omega)]
  | succ d ih =>
    intro i k hd hi hk
    obtain ⟨k, rfl⟩ : ∃ m, k = m + 1 := ⟨k - 1, by omega⟩
    have hlt : i < a.length := by omega
    have e : a[i].toList = (b[i]'(by omega)).toList := by
      have h1 : (a.map ByteArray.toList)[i]? = (b.map ByteArray.toList)[i]? := by rw [h]
      rw [List.getElem?_map, List.getElem?_map, List.getElem?_eq_getElem hlt, List.getElem?_eq_getElem (by omega)] at h1
      simpa using h1
    rw [lienlaw02_same.l0, if_pos (by omega), if_pos (by omega), if_pos (by omega), rdOf_nat a i hlt, rdOf_nat b i (by omega), if_pos e, wrap64_id (by omega) (by omega), show ((i : Int) + 1) = ((i + 1 : Nat) : Int) by omega]
    exact ih (i + 1) k (by omega) (by omega) (by omega)
theorem same_ev (a b : List ByteArray) (h : a.map ByteArray.toList = b.map ByteArray.toList) (ha : a.length < 9223372036854775807) : Ev (fun k => lienlaw02_same.f k a b) true := ⟨a.length + 1, fun k hk => by
  have hl : a.length = b.length := by have := congrArg List.length h; simpa using this
  show lienlaw02_same.f k a b = some true
  unfold lienlaw02_same.f
  rw [if_pos (by omega)]
  exact same_l0 a b h ha a.length 0 k (by omega) (by omega) hk⟩

theorem awake02 : Ev (fun k => lienlaw02_awake.f k) true := Ev.of (fun k => lienlaw02_awake.mono k) (k := 20) (by kernel_rfl)

theorem decI_len : ∀ (l : List Int) (out : List ByteArray) (part : List Int) (op : Bool), out.length ≤ 8 ∨ True → (decI l out part op).1.length ≤ 8 := by
  intro l
  induction h : l.length using Nat.strongRecOn generalizing l with
  | _ n ih =>
  intro out part op _
  match l, h with
  | [], _ => rw [decI]; split; · simp
             split
             · simp
             · simp; omega
  | [c], _ => rw [decI]; split <;> simp
  | c :: d :: t, h =>
    simp only [List.length_cons] at h
    rw [decI]
    split
    · split
      · exact ih t.length (by omega) t rfl _ _ _ (Or.inr trivial)
      · split
        · exact ih t.length (by omega) t rfl _ _ _ (Or.inr trivial)
        · simp
    · exact ih (d :: t).length (by simp only [List.length_cons]; omega) (d :: t) rfl _ _ _ (Or.inr trivial)
theorem CodeKeys : lienlaw02_CodeKeys.Pure := by
  intro l0 a1 _ _
  have hkey := short_val a1
  have hk := shortB_size a1
  generalize shortB a1 = key at hkey hk
  refine Ev.rounds ?_
  unfold lienlaw02_CodeKeys.f
  have s0 := fun p hp => Nat.le_trans (rowsOf_small l0 p hp) (show 4096 ≤ 140737488351232 by decide)
  have k0 := rows_key l0
  refine Ev.bind (rows_ev l0) ?_
  refine Ev.bind (g := fun _ => lienlaw02_short.f a1) (a := key) (hkey ▸ Ev.now key) ?_
  refine Ev.bind (code_Key_ev _ s0 k0) ?_
  refine Ev.bind (ref_Key_ev _ s0 k0) ?_
  refine Ev.bind (code_Parts_ev key (by omega)) ?_
  refine Ev.bind (ref_Parts_ev key (by omega)) ?_
  simp only [if_true]
  have hl : (partsOf key).1.length ≤ 8 := decI_len _ _ _ _ (Or.inr trivial)
  refine Ev.bind (same_ev _ _ rfl (by omega)) ?_
  simp only [if_true]
  exact Ev.bind awake02 (Ev.now true)

end Go.Proofs.Ytlehgphnjpgjnaa.Pure
