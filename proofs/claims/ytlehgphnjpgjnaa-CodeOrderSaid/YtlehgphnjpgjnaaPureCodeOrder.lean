/- Written for the statement CodeOrder over the program's printed functions: numbers and lists alone. -/
import Derived.Test.YtlehgphnjpgjnaaPCodeOrderx
set_option linter.unusedVariables false
set_option linter.unusedSimpArgs false
namespace Go.Proofs.Ytlehgphnjpgjnaa.Pure
open Go.RowKit Go.Proofs.Ytlehgphnjpgjnaa.PCodeOrder Go.Proofs.YtlehgphnjpgjnaaW Go.Proofs.YtlehgphnjpgjnaaW.PrintWords Go.Proofs.YtlehgphnjpgjnaaW.PrintLast Go.Proofs.YtlehgphnjpgjnaaW.PrintMore

theorem wrap64_id {x : Int} (h0 : -9223372036854775808 ≤ x) (h1 : x ≤ 9223372036854775807) : wrap64 x = x := by unfold wrap64; omega
theorem wu64 (n : Int) : IntKind.u64.wrap n = n % 18446744073709551616 := by simp [IntKind.wrap, IntKind.bits, IntKind.signed]
theorem wraps_u64 (n : Int) (h0 : 0 ≤ n) (h1 : n < 2 ^ 64) : IntKind.u64.wrap n = n := by rw [wu64]; omega
theorem u64_and127 {x : Int} (h0 : 0 ≤ x) (h1 : x < 18446744073709551616) : Go.bits .and .u64 x 127 = x % 128 := Go.bits_mask .u64 64 (by decide) wraps_u64 7 (by decide) x h0 h1
theorem u8_and127 {x : Int} (h0 : 0 ≤ x) (h1 : x < 256) : Go.bits .and .u8 x 127 = x % 128 := Go.bits_mask .u8 8 (by decide) Go.wraps_u8 7 (by decide) x h0 h1
theorem bits_comm_or (k : IntKind) (x y : Int) : Go.bits .or k x y = Go.bits .or k y x := by simp [Go.bits, BitVec.or_comm]
theorem u8_or_128 {x : Int} (h0 : 0 ≤ x) (h1 : x < 128) : Go.bits .or .u8 x 128 = x + 128 := by
  rw [bits_comm_or, Go.bits_join .u8 8 (by decide) Go.wraps_u8 7 128 x (by decide) (by decide) (by decide) h0 h1 (by omega)]; omega
theorem u64_join (i : Nat) {x y : Int} (hx0 : 0 ≤ x) (hx : x % 2 ^ i = 0) (hx1 : x < 18446744073709551616) (hy0 : 0 ≤ y) (hy : y < 2 ^ i) (hy1 : y < 18446744073709551616) : Go.bits .or .u64 x y = x + y :=
  Go.bits_join .u64 64 (by decide) wraps_u64 i x y hx0 hx hx1 hy0 hy hy1
theorem wf_u64 {x : Int} (h : (Lit.int .u64 x).wf = true) : 0 ≤ x ∧ x < 18446744073709551616 := by
  simp [Lit.wf, IntKind.min, IntKind.max, IntKind.bits, IntKind.signed] at h; omega
theorem wf_u8 {x : Int} (h : (Lit.int .u8 x).wf = true) : 0 ≤ x ∧ x < 256 := by
  simp [Lit.wf, IntKind.min, IntKind.max, IntKind.bits, IntKind.signed] at h; omega
theorem wf_i64 {x : Int} (h : (Lit.int .i64 x).wf = true) : -9223372036854775808 ≤ x ∧ x ≤ 9223372036854775807 := by
  simp [Lit.wf, IntKind.min, IntKind.max, IntKind.bits, IntKind.signed] at h; omega
def Byt (l : List Int) : Prop := ∀ x ∈ l, 0 ≤ x ∧ x < 256
theorem Byt.of_wf {l : List Int} (h : ∀ x ∈ l, (Lit.int .u8 x).wf = true) : Byt l := fun x hx => wf_u8 (h x hx)
theorem Byt.rd {l : List Int} (h : Byt l) (i : Int) : 0 ≤ rd l i ∧ rd l i < 256 := by
  unfold PrintWords.rd
  rw [List.getD_eq_getElem?_getD]
  cases e : l[i.toNat]? with
  | none => simp
  | some x => exact h x (List.mem_of_getElem? e)
theorem Byt.take {l : List Int} (h : Byt l) (n : Nat) : Byt (l.take n) := fun x hx => h x (List.mem_of_mem_take hx)
theorem Byt.drop {l : List Int} (h : Byt l) (n : Nat) : Byt (l.drop n) := fun x hx => h x (List.mem_of_mem_drop hx)
theorem rd_nat (l : List Int) (i : Nat) : rd l (i : Int) = l.getD i 0 := by unfold PrintWords.rd; simp
theorem rd_drop {l : List Int} {i : Nat} (h : i < l.length) : l.drop i = rd l (i : Int) :: l.drop (i + 1) := by
  rw [rd_nat, List.drop_eq_getElem_cons h]; simp [List.getD_eq_getElem?_getD, List.getElem?_eq_getElem h]

theorem bl_eq (s : ByteArray) : s.toList = s.data.toList := ByteArray.toList_eq s
theorem ba_ext {a b : ByteArray} (h : a.toList = b.toList) : a = b := by
  rw [bl_eq, bl_eq] at h
  exact ByteArray.ext (Array.toList_inj.mp h)
theorem bl_len (s : ByteArray) : s.toList.length = s.size := by rw [bl_eq, Array.length_toList]; rfl
theorem bl_append (a b : ByteArray) : (a ++ b).toList = a.toList ++ b.toList := by rw [bl_eq, bl_eq, bl_eq, ByteArray.data_append, Array.toList_append]
theorem bl_extract (a : ByteArray) (i j : Nat) : (a.extract i j).toList = (a.toList.take j).drop i := by
  rw [bl_eq, bl_eq, ByteArray.data_extract, Array.toList_extract, List.extract_eq_take_drop, List.drop_take]
theorem bl_nums (xs : List Int) : (strOfNums xs).toList = xs.map fun n => UInt8.ofNat n.toNat := by rw [bl_eq]; rfl
theorem bt_nat (s : ByteArray) (i : Nat) (h : i < s.size) : bt s (i : Int) = ((s.toList[i]'(by rw [bl_len]; exact h)).toNat : Int) := by
  unfold PrintWords.bt
  rw [dif_pos (by simpa using h)]
  simp only [Int.toNat_natCast, bl_eq]
  rfl
theorem bl_bytesOf (s : ByteArray) : bytesOf s = s.toList.map fun b => (b.toNat : Int) := by unfold PrintWords.bytesOf; rw [bl_eq]
theorem less_app (p x y : List UInt8) : Op.bytesLess (p ++ x) (p ++ y) = Op.bytesLess x y := by
  induction p with
  | nil => rfl
  | cons c t ih => simp [Op.bytesLess, ih, UInt8.lt_irrefl]
theorem less_next {c d : UInt8} (h : c.toNat < d.toNat) (x y : List UInt8) : Op.bytesLess (c :: x) (d :: y) = true := by
  simp only [Op.bytesLess]
  rw [decide_eq_true (UInt8.lt_iff_toNat_lt.mpr h)]
  rfl

def escI (c : Int) : List Int := if c = 0 then [0, 255] else [c]
def encI (p : ByteArray) : List Int := (bytesOf p).flatMap escI ++ [0, 1]
def keyI (ps : List ByteArray) : List Int := ps.flatMap encI
def esc (c : UInt8) : List UInt8 := if c = 0 then [0, 255] else [c]
def enc1 (p : List UInt8) : List UInt8 := p.flatMap esc ++ [0, 1]
def encK (ps : List (List UInt8)) : List UInt8 := ps.flatMap enc1
def back8 (n : Int) : UInt8 := UInt8.ofNat n.toNat
theorem back_esc (c : UInt8) : (escI (c.toNat : Int)).map back8 = esc c := by
  unfold escI esc
  by_cases h : c = 0
  · subst h; rfl
  · rw [if_neg h, if_neg (fun e => h (UInt8.toNat_inj.mp (by simpa using e)))]
    simp [back8]
theorem back_flat (l : List UInt8) : ((l.map fun b => (b.toNat : Int)).flatMap escI).map back8 = l.flatMap esc := by
  induction l with
  | nil => rfl
  | cons c t ih => simp only [List.map_cons, List.flatMap_cons, List.map_append, ih, back_esc]
theorem back_enc (p : ByteArray) : (encI p).map back8 = enc1 p.toList := by
  unfold encI enc1
  rw [List.map_append, bl_bytesOf, back_flat]; rfl
theorem key_list (ps : List ByteArray) : (strOfNums (keyI ps)).toList = encK (ps.map ByteArray.toList) := by
  rw [bl_nums]
  show (keyI ps).map back8 = _
  unfold keyI encK
  induction ps with
  | nil => rfl
  | cons p t ih => simp only [List.flatMap_cons, List.map_append, List.map_cons, ih, back_enc]
theorem escI_len (c : Int) : (escI c).length ≤ 2 := by unfold escI; split <;> simp
theorem flat_len (l : List Int) : (l.flatMap escI).length ≤ 2 * l.length := by
  induction l with
  | nil => simp
  | cons c t ih => rw [List.flatMap_cons, List.length_append, List.length_cons]; have := escI_len c; omega
theorem encI_len (p : ByteArray) : (encI p).length ≤ 2 * p.size + 2 := by
  unfold encI
  have := flat_len (bytesOf p)
  rw [bytesOf_length] at this
  rw [List.length_append]
  simp only [List.length_cons, List.length_nil]
  omega
theorem keyI_cons (p : ByteArray) (t : List ByteArray) : keyI (p :: t) = encI p ++ keyI t := by rw [keyI, keyI, List.flatMap_cons]
theorem keyI_len (ps : List ByteArray) (h : ∀ p ∈ ps, p.size ≤ 4096) : (keyI ps).length ≤ ps.length * 8194 := by
  unfold keyI
  induction ps with
  | nil => simp
  | cons p t ih =>
    have h1 := encI_len p
    have h2 := h p (List.mem_cons_self ..)
    have h3 := ih (fun x hx => h x (List.mem_cons_of_mem _ hx))
    rw [List.flatMap_cons, List.length_append, List.length_cons]
    omega
theorem rdOf_nat (l : List ByteArray) (i : Nat) (h : i < l.length) : rdOf ByteArray.empty l (i : Int) = l[i] := by
  unfold PrintWords.rdOf
  rw [Int.toNat_natCast, List.getD_eq_getElem?_getD, List.getElem?_eq_getElem h]; rfl
theorem bytesOf_drop (p : ByteArray) (i : Nat) (h : i < p.size) : (bytesOf p).drop i = bt p (i : Int) :: (bytesOf p).drop (i + 1) := by
  rw [rd_drop (by rw [bytesOf_length]; exact h), rd_bytesOf]

theorem code_Key_l1 (p : ByteArray) (hp : p.size ≤ 140737488351232) (ps : List ByteArray) (j : Int) (d : Nat) : ∀ (i k : Nat) (acc : List Int), p.size - i = d → i ≤ p.size → acc.length + (((bytesOf p).drop i).flatMap escI).length + 2 < 140737488355328 → j < 9223372036854775807 → 0 ≤ j →
    code_Key.l1 (k + d + 1) acc p (i : Int) ps (ps.length : Int) j = code_Key.l0 k (acc ++ ((bytesOf p).drop i).flatMap escI ++ [0, 1]) ps (ps.length : Int) (j + 1) := by
  induction d with
  | zero =>
    intro i k acc hd hi hl hj hj0
    have e : (bytesOf p).drop i = [] := List.drop_eq_nil_of_le (by rw [bytesOf_length]; omega)
    rw [e] at hl ⊢
    rw [code_Key.l1, if_neg (by omega), Option.bind_some, if_pos (by simp at hl ⊢; omega), wrap64_id (by omega) (by omega)]
    simp
  | succ d ih =>
    intro i k acc hd hi hl hj hj0
    have hlt : i < p.size := by omega
    rw [bytesOf_drop p i hlt] at hl ⊢
    rw [List.flatMap_cons, List.length_append] at hl
    rw [show k + (d + 1) + 1 = (k + d + 1) + 1 by omega, code_Key.l1, if_pos (by omega), if_pos (by omega)]
    by_cases c : bt p (i : Int) = 0
    · have el : (escI (bt p (i : Int))).length = 2 := by rw [escI, if_pos c]; rfl
      rw [if_pos (by omega), Option.bind_some, if_pos c, if_pos (by simp; omega), wrap64_id (by omega) (by omega)]
      have := ih (i + 1) k (acc ++ [bt p (i : Int)] ++ [255]) (by omega) (by omega) (by simp only [List.length_append, List.length_cons, List.length_nil]; omega) hj hj0
      rw [show ((i : Int) + 1) = ((i + 1 : Nat) : Int) by omega, this, List.flatMap_cons, escI, if_pos c, c]
      simp
    · have el : (escI (bt p (i : Int))).length = 1 := by rw [escI, if_neg c]; rfl
      rw [if_pos (by omega), Option.bind_some, if_neg c, wrap64_id (by omega) (by omega)]
      have := ih (i + 1) k (acc ++ [bt p (i : Int)]) (by omega) (by omega) (by simp only [List.length_append, List.length_cons, List.length_nil]; omega) hj hj0
      rw [show ((i : Int) + 1) = ((i + 1 : Nat) : Int) by omega, this, List.flatMap_cons, escI, if_neg c]
      simp
def keyRounds : List ByteArray → Nat
  | [] => 1
  | p :: t => p.size + 2 + keyRounds t
theorem code_Key_l0 (ps : List ByteArray) (hps : ps.length ≤ 8) (d : Nat) : ∀ (i k : Nat) (acc : List Int), ps.length - i = d → i ≤ ps.length → (∀ p ∈ ps, p.size ≤ 140737488351232) → acc.length + (keyI (ps.drop i)).length < 140737488355328 → keyRounds (ps.drop i) ≤ k →
    code_Key.l0 k acc ps (ps.length : Int) (i : Int) = some (strOfNums (acc ++ keyI (ps.drop i)), 0) := by
  induction d with
  | zero =>
    intro i k acc hd hi hs hl hk
    have e : ps.drop i = [] := List.drop_eq_nil_of_le (by omega)
    rw [e] at hk ⊢
    simp only [keyRounds] at hk
    obtain ⟨k, rfl⟩ : ∃ m, k = m + 1 := ⟨k - 1, by omega⟩
    rw [code_Key.l0, if_neg (by omega)]
    simp [keyI]
  | succ d ih =>
    intro i k acc hd hi hs hl hk
    have hlt : i < ps.length := by omega
    have e : ps.drop i = ps[i] :: ps.drop (i + 1) := List.drop_eq_getElem_cons hlt
    rw [e] at hk hl ⊢
    simp only [keyRounds] at hk
    have hl2 : acc.length + ((encI ps[i]).length + (keyI (ps.drop (i + 1))).length) < 140737488355328 := by
      rw [keyI_cons, List.length_append] at hl
      exact hl
    have el : (encI ps[i]).length = ((bytesOf ps[i]).flatMap escI).length + 2 := by simp [encI]
    obtain ⟨k, rfl⟩ : ∃ m, k = m + 1 := ⟨k - 1, by omega⟩
    rw [code_Key.l0, if_pos (by omega), if_pos (by omega), if_pos (by omega), rdOf_nat ps i hlt]
    obtain ⟨k2, hk2⟩ : ∃ m, k = m + ps[i].size + 1 := ⟨k - ps[i].size - 1, by omega⟩
    have h1 := code_Key_l1 ps[i] (hs _ (List.getElem_mem _)) ps (i : Int) ps[i].size 0 k2 acc (by omega) (by omega) (by rw [List.drop_zero]; omega) (by omega) (by omega)
    rw [List.drop_zero] at h1
    rw [hk2, show (0 : Int) = ((0 : Nat) : Int) from rfl, h1, show ((i : Int) + 1) = ((i + 1 : Nat) : Int) by omega]
    rw [ih (i + 1) k2 _ (by omega) (by omega) hs (by simp only [List.length_append, List.length_cons, List.length_nil]; omega) (by omega)]
    rw [keyI_cons, encI]
    simp only [List.append_assoc]
    rfl
theorem code_Key_ev (ps : List ByteArray) (hs : ∀ p ∈ ps, p.size ≤ 140737488351232) (hl : (keyI ps).length < 140737488355328) : Ev (fun k => code_Key.f k ps) (if ps.length ≤ 8 then (strOfNums (keyI ps), 0) else ((⟨#[]⟩ : ByteArray), 3)) := by
  refine ⟨keyRounds ps, fun k hk => ?_⟩
  show code_Key.f k ps = _
  unfold code_Key.f
  by_cases h : ps.length ≤ 8
  · rw [if_neg (by omega), if_pos h]
    have := code_Key_l0 ps h ps.length 0 k [] (by omega) (by omega) hs (by simpa using hl) (by simpa using hk)
    simpa using this
  · rw [if_pos (by omega), if_neg h]

def shortB (s : ByteArray) : ByteArray := if s.size > 4096 then s.extract 0 4096 else s
theorem shortB_size (s : ByteArray) : (shortB s).size ≤ 4096 := by
  unfold shortB
  split
  · rw [ByteArray.size_extract]; omega
  · omega
theorem short_val (s : ByteArray) : lienlaw02_short.f s = some (shortB s) := by
  unfold lienlaw02_short.f shortB
  by_cases h : s.size > 4096
  · rw [if_pos (by omega), if_pos (by omega), if_pos (by omega), if_pos h]
  · rw [if_neg (by omega), if_neg h]
def rowsOf (l : List ByteArray) : List ByteArray := (l.take 9).map shortB
theorem rowsOf_small (l : List ByteArray) : ∀ p ∈ rowsOf l, p.size ≤ 4096 := fun p hp => by
  obtain ⟨q, _, rfl⟩ := List.mem_map.mp hp
  exact shortB_size q
theorem rowsOf_len (l : List ByteArray) : (rowsOf l).length ≤ 9 := by unfold rowsOf; rw [List.length_map, List.length_take]; omega
theorem rows_l0 (l : List ByteArray) (d : Nat) : ∀ (i k : Nat) (acc : List ByteArray), 9 - i = d → i ≤ 9 → acc.length ≤ i → d + 1 ≤ k →
    lienlaw02_rows.l0 k l acc (i : Int) = some (acc ++ ((l.take 9).drop i).map shortB) := by
  induction d with
  | zero =>
    intro i k acc hd hi ha hk
    obtain ⟨k, rfl⟩ : ∃ m, k = m + 1 := ⟨k - 1, by omega⟩
    have e : (l.take 9).drop i = [] := List.drop_eq_nil_of_le (by rw [List.length_take]; omega)
    rw [lienlaw02_rows.l0, e]
    split
    · rw [if_neg (by omega)]; simp
    · simp
  | succ d ih =>
    intro i k acc hd hi ha hk
    obtain ⟨k, rfl⟩ : ∃ m, k = m + 1 := ⟨k - 1, by omega⟩
    rw [lienlaw02_rows.l0]
    by_cases h : i < l.length
    · rw [if_pos (by omega), if_pos (by omega), if_pos (by omega), rdOf_nat l i h, short_val, Option.bind_some, if_pos (by omega), wrap64_id (by omega) (by omega)]
      have ht : i < (l.take 9).length := by rw [List.length_take]; omega
      have e : (l.take 9).drop i = l[i] :: (l.take 9).drop (i + 1) := by
        rw [List.drop_eq_getElem_cons ht]; simp
      have := ih (i + 1) k (acc ++ [shortB l[i]]) (by omega) (by omega) (by simp; omega) (by omega)
      rw [show ((i : Int) + 1) = ((i + 1 : Nat) : Int) by omega, this, e]
      simp
    · have e : (l.take 9).drop i = [] := List.drop_eq_nil_of_le (by rw [List.length_take]; omega)
      rw [if_neg (by omega), e]; simp
theorem rows_ev (l : List ByteArray) : Ev (fun k => lienlaw02_rows.f k l) (rowsOf l) := ⟨10, fun k hk => by
  have := rows_l0 l 9 0 k [] (by omega) (by omega) (by simp) (by omega)
  simpa [lienlaw02_rows.f, rowsOf] using this⟩
theorem rows_key (l : List ByteArray) : (keyI (rowsOf l)).length < 140737488355328 := by
  have h1 := keyI_len (rowsOf l) (rowsOf_small l)
  have h2 := rowsOf_len l
  have : (rowsOf l).length * 8194 ≤ 9 * 8194 := Nat.mul_le_mul_right _ h2
  omega

theorem awake02 : Ev (fun k => lienlaw02_awake.f k) true := Ev.of (fun k => lienlaw02_awake.mono k) (k := 20) (by kernel_rfl)

theorem less_enc : ∀ (p q x y : List UInt8), p ≠ q → Op.bytesLess (enc1 p ++ x) (enc1 q ++ y) = Op.bytesLess p q
  | [], [], _, _, h => absurd rfl h
  | [], d :: q, x, y, _ => by
    show Op.bytesLess (0 :: 1 :: x) _ = true
    unfold enc1
    rw [List.flatMap_cons, esc]
    by_cases hd : d = 0
    · rw [if_pos hd]
      simp [Op.bytesLess]
    · rw [if_neg hd]
      have : (0 : UInt8) < d := by
        rw [UInt8.lt_iff_toNat_lt]
        have := fun e => hd (UInt8.toNat_inj.mp e)
        simp at this ⊢
        omega
      simp [Op.bytesLess, this]
  | c :: p, [], x, y, _ => by
    have : Op.bytesLess (c :: p) [] = false := rfl
    rw [this]
    show Op.bytesLess _ (0 :: 1 :: y) = false
    unfold enc1
    rw [List.flatMap_cons, esc]
    by_cases hc : c = 0
    · rw [if_pos hc]
      simp [Op.bytesLess]
    · rw [if_neg hc]
      have : ¬ c < 0 := by rw [UInt8.lt_iff_toNat_lt]; simp
      simp [Op.bytesLess, hc]
  | c :: p, d :: q, x, y, h => by
    by_cases e : c = d
    · subst e
      have ih := less_enc p q x y (fun e => h (by rw [e]))
      have e1 : enc1 (c :: p) ++ x = esc c ++ (enc1 p ++ x) := by simp [enc1]
      have e2 : enc1 (c :: q) ++ y = esc c ++ (enc1 q ++ y) := by simp [enc1]
      rw [e1, e2, less_app, ih]
      simp [Op.bytesLess, UInt8.lt_irrefl]
    · have e1 : ∃ r, enc1 (c :: p) ++ x = c :: r := by
        unfold enc1 esc
        rw [List.flatMap_cons]
        by_cases hc : c = 0
        · rw [if_pos hc, hc]; exact ⟨_, rfl⟩
        · rw [if_neg hc]; exact ⟨_, rfl⟩
      have e2 : ∃ r, enc1 (d :: q) ++ y = d :: r := by
        unfold enc1 esc
        rw [List.flatMap_cons]
        by_cases hc : d = 0
        · rw [if_pos hc, hc]; exact ⟨_, rfl⟩
        · rw [if_neg hc]; exact ⟨_, rfl⟩
      obtain ⟨r1, e1⟩ := e1
      obtain ⟨r2, e2⟩ := e2
      have e3 : (c == d) = false := by simp [e]
      rw [e1, e2]
      simp only [Op.bytesLess, e3, Bool.false_and, Bool.or_false]
def aheadL : List (List UInt8) → List (List UInt8) → Bool
  | [], [] => false
  | [], _ :: _ => true
  | _ :: _, [] => false
  | p :: ps, q :: qs => if p = q then aheadL ps qs else Op.bytesLess p q
theorem enc1_ne (p x : List UInt8) : ∃ c r, enc1 p ++ x = c :: r := by
  cases h : enc1 p ++ x with
  | nil => unfold enc1 at h; simp at h
  | cons c r => exact ⟨c, r, rfl⟩
theorem less_keys : ∀ a b : List (List UInt8), Op.bytesLess (encK a) (encK b) = aheadL a b
  | [], [] => rfl
  | [], q :: qs => by
    obtain ⟨c, r, e⟩ := enc1_ne q (encK qs)
    have : encK (q :: qs) = c :: r := by rw [← e]; simp [encK]
    rw [this]; rfl
  | p :: ps, [] => by
    have : encK ([] : List (List UInt8)) = [] := rfl
    rw [this]
    cases encK (p :: ps) <;> rfl
  | p :: ps, q :: qs => by
    have e1 : encK (p :: ps) = enc1 p ++ encK ps := by simp [encK]
    have e2 : encK (q :: qs) = enc1 q ++ encK qs := by simp [encK]
    rw [e1, e2, aheadL]
    by_cases h : p = q
    · rw [if_pos h, h, less_app]; exact less_keys ps qs
    · rw [if_neg h]; exact less_enc p q _ _ h
theorem ahead_l0 (a b : List ByteArray) (ha : a.length ≤ 9) (hb : b.length ≤ 9) (d : Nat) : ∀ (i k : Nat), a.length - i = d → i ≤ a.length → i ≤ b.length → 2 * d + 2 ≤ k →
    lienlaw02_ahead.l0 k a b (i : Int) = some (aheadL ((a.drop i).map ByteArray.toList) ((b.drop i).map ByteArray.toList)) := by
  induction d with
  | zero =>
    intro i k hd hi hib hk
    obtain ⟨k, rfl⟩ : ∃ m, k = m + 1 + 1 := ⟨k - 2, by omega⟩
    rw [lienlaw02_ahead.l0, if_neg (by omega), lienlaw02_ahead.j1, if_neg (by decide)]
    have e : a.drop i = [] := List.drop_eq_nil_of_le (by omega)
    rw [e]
    by_cases hb2 : i < b.length
    · rw [List.drop_eq_getElem_cons hb2, decide_eq_true (by omega)]; rfl
    · have e2 : b.drop i = [] := List.drop_eq_nil_of_le (by omega)
      rw [e2, decide_eq_false (by omega)]; rfl
  | succ d ih =>
    intro i k hd hi hib hk
    obtain ⟨k, rfl⟩ : ∃ m, k = m + 1 + 1 := ⟨k - 2, by omega⟩
    have hlt : i < a.length := by omega
    rw [lienlaw02_ahead.l0, if_pos (by omega), lienlaw02_ahead.j1, List.drop_eq_getElem_cons hlt]
    by_cases hb2 : i < b.length
    · rw [decide_eq_true (by omega), if_pos rfl, if_pos (by omega), if_pos (by omega), if_pos (by omega), rdOf_nat a i hlt, rdOf_nat b i hb2, List.drop_eq_getElem_cons hb2]
      simp only [List.map_cons, aheadL]
      by_cases e : a[i].toList = b[i].toList
      · rw [if_pos e, if_pos e, wrap64_id (by omega) (by omega)]
        have := ih (i + 1) k (by omega) (by omega) (by omega) (by omega)
        rw [show ((i : Int) + 1) = ((i + 1 : Nat) : Int) by omega, this]
      · rw [if_neg e, if_neg e]
    · have e2 : b.drop i = [] := List.drop_eq_nil_of_le (by omega)
      rw [decide_eq_false (by omega), if_neg (by decide), e2, decide_eq_false (by omega)]; rfl
theorem ahead_ev (a b : List ByteArray) (ha : a.length ≤ 9) (hb : b.length ≤ 9) : Ev (fun k => lienlaw02_ahead.f k a b) (aheadL (a.map ByteArray.toList) (b.map ByteArray.toList)) := ⟨30, fun k hk => by
  have := ahead_l0 a b ha hb a.length 0 k (by omega) (by omega) (by omega) (by omega)
  simpa [lienlaw02_ahead.f] using this⟩
theorem CodeOrder : lienlaw02_CodeOrder.Pure := by
  intro l0 l1 _ _
  refine Ev.rounds ?_
  unfold lienlaw02_CodeOrder.f
  refine Ev.bind (rows_ev l0) ?_
  refine Ev.bind (rows_ev l1) ?_
  refine Ev.bind awake02 ?_
  simp only [if_true]
  have s0 := fun p hp => Nat.le_trans (rowsOf_small l0 p hp) (show 4096 ≤ 140737488351232 by decide)
  have s1 := fun p hp => Nat.le_trans (rowsOf_small l1 p hp) (show 4096 ≤ 140737488351232 by decide)
  have k0 := rows_key l0
  have k1 := rows_key l1
  have n0 := rowsOf_len l0
  have n1 := rowsOf_len l1
  generalize rowsOf l0 = a at *
  generalize rowsOf l1 = b at *
  refine Ev.bind (code_Key_ev a s0 k0) ?_
  refine Ev.bind (code_Key_ev b s1 k1) ?_
  by_cases ca : a.length ≤ 8
  · rw [if_pos ca]
    simp only [if_true]
    by_cases cb : b.length ≤ 8
    · rw [if_pos cb]
      refine Ev.step (f := fun k => (lienlaw02_ahead.f k a b).bind fun t155 => (if ((Op.bytesLess (strOfNums (keyI a)).toList (strOfNums (keyI b)).toList) == t155) = true then ((lienlaw02_ahead.f k b a).bind fun t156 => (some ((Op.bytesLess (strOfNums (keyI b)).toList (strOfNums (keyI a)).toList) == t156))) else (some false))) (fun k => by rw [lienlaw02_CodeOrder.j0]; rfl) ?_
      refine Ev.bind (ahead_ev a b n0 n1) ?_
      rw [key_list, key_list, less_keys, less_keys]
      simp only [beq_self_eq_true, if_true]
      refine Ev.bind (ahead_ev b a n1 n0) ?_
      rw [beq_self_eq_true]
      exact Ev.now true
    · rw [if_neg cb]
      refine Ev.step (f := fun _ => some true) (fun k => ?_) (Ev.now true)
      rw [show (((3 : Int) != 0) = true) from rfl, lienlaw02_CodeOrder.j0, if_pos rfl, if_neg (by omega), decide_eq_true (by omega)]
  · rw [if_neg ca]
    simp only [show ((3 : Int) = 0) = False from by simp, if_false]
    refine Ev.step (f := fun _ => some true) (fun k => ?_) (Ev.now true)
    rw [lienlaw02_CodeOrder.j0, if_pos rfl, if_pos (by omega)]

end Go.Proofs.Ytlehgphnjpgjnaa.Pure
