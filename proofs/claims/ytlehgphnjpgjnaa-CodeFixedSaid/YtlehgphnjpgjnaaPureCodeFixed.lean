/- Written for the statement CodeFixed over the program's printed functions: numbers and lists alone. -/
import Derived.Test.YtlehgphnjpgjnaaPCodeFixedx
set_option linter.unusedVariables false
set_option linter.unusedSimpArgs false
namespace Go.Proofs.Ytlehgphnjpgjnaa.Pure
open Go.RowKit Go.Proofs.Ytlehgphnjpgjnaa.PCodeFixed Go.Proofs.YtlehgphnjpgjnaaW Go.Proofs.YtlehgphnjpgjnaaW.PrintWords Go.Proofs.YtlehgphnjpgjnaaW.PrintLast Go.Proofs.YtlehgphnjpgjnaaW.PrintMore

theorem wrap64_id {x : Int} (h0 : -9223372036854775808 ≤ x) (h1 : x ≤ 9223372036854775807) : wrap64 x = x := by unfold wrap64; omega
theorem wu64 (n : Int) : IntKind.u64.wrap n = n % 18446744073709551616 := by simp [IntKind.wrap, IntKind.bits, IntKind.signed]
theorem wraps_u64 (n : Int) (h0 : 0 ≤ n) (h1 : n < 2 ^ 64) : IntKind.u64.wrap n = n := by rw [wu64]; omega
theorem u64_and127 {x : Int} (h0 : 0 ≤ x) (h1 : x < 18446744073709551616) : Go.bits .and .u64 x 127 = x % 128 := Go.bits_mask .u64 64 (by decide) wraps_u64 7 (by decide) x h0 h1
theorem u8_and127 {x : Int} (h0 : 0 ≤ x) (h1 : x < 256) : Go.bits .and .u8 x 127 = x % 128 := Go.bits_mask .u8 8 (by decide) Go.wraps_u8 7 (by decide) x h0 h1
theorem bits_comm_or (k : IntKind) (x y : Int) : Go.bits .or k x y = Go.bits .or k y x := by simp [Go.bits, BitVec.or_comm]
theorem u8_or_128 {x : Int} (h0 : 0 ≤ x) (h1 : x < 128) : Go.bits .or .u8 x 128 = x + 128 := by
  rw [bits_comm_or, Go.bits_join .u8 8 (by decide) Go.wraps_u8 7 128 x (by decide) (by decide) (by decide) h0 h1 (by omega)]; omega
theorem u64_join (i : Nat) {x y : Int} (hx0 : 0 ≤ x) (hx : x % 2 ^ i = 0) (hx1 : x < 18446744073709551616) (hy0 : 0 ≤ y) (hy : y < 2 ^ i) (hy1 : y < 18446744073709551616) : Go.bits .or .u64 x y = x + y :=
  Go.bits_join .u64 64 (by decide) wraps_u64 i x y hx0 hx hx1 hy0 hy hy1
theorem wf_u64 {x : Int} (h : (Lit.int .u64 x).wf = true) : 0 ≤ x ∧ x < 18446744073709551616 := by
  simp [Lit.wf, IntKind.min, IntKind.max, IntKind.bits, IntKind.signed] at h; omega
theorem wf_u8 {x : Int} (h : (Lit.int .u8 x).wf = true) : 0 ≤ x ∧ x < 256 := by
  simp [Lit.wf, IntKind.min, IntKind.max, IntKind.bits, IntKind.signed] at h; omega
theorem wf_i64 {x : Int} (h : (Lit.int .i64 x).wf = true) : -9223372036854775808 ≤ x ∧ x ≤ 9223372036854775807 := by
  simp [Lit.wf, IntKind.min, IntKind.max, IntKind.bits, IntKind.signed] at h; omega
def Byt (l : List Int) : Prop := ∀ x ∈ l, 0 ≤ x ∧ x < 256
theorem Byt.of_wf {l : List Int} (h : ∀ x ∈ l, (Lit.int .u8 x).wf = true) : Byt l := fun x hx => wf_u8 (h x hx)
theorem Byt.rd {l : List Int} (h : Byt l) (i : Int) : 0 ≤ rd l i ∧ rd l i < 256 := by
  unfold PrintWords.rd
  rw [List.getD_eq_getElem?_getD]
  cases e : l[i.toNat]? with
  | none => simp
  | some x => exact h x (List.mem_of_getElem? e)
theorem Byt.take {l : List Int} (h : Byt l) (n : Nat) : Byt (l.take n) := fun x hx => h x (List.mem_of_mem_take hx)
theorem Byt.drop {l : List Int} (h : Byt l) (n : Nat) : Byt (l.drop n) := fun x hx => h x (List.mem_of_mem_drop hx)
theorem rd_nat (l : List Int) (i : Nat) : rd l (i : Int) = l.getD i 0 := by unfold PrintWords.rd; simp
theorem rd_drop {l : List Int} {i : Nat} (h : i < l.length) : l.drop i = rd l (i : Int) :: l.drop (i + 1) := by
  rw [rd_nat, List.drop_eq_getElem_cons h]; simp [List.getD_eq_getElem?_getD, List.getElem?_eq_getElem h]

def fixEnc (n : Nat) : Nat → List Int
  | 0 => []
  | s + 1 => fixEnc (n / 256) s ++ [((n % 256 : Nat) : Int)]
theorem fixEnc_len (s : Nat) : ∀ n, (fixEnc n s).length = s := by
  induction s with
  | zero => intro n; rfl
  | succ s ih => intro n; simp [fixEnc, ih]
theorem fixEnc_byt (s : Nat) : ∀ n, Byt (fixEnc n s) := by
  induction s with
  | zero => intro n x hx; simp [fixEnc] at hx
  | succ s ih =>
    intro n x hx
    simp only [fixEnc, List.mem_append, List.mem_singleton] at hx
    rcases hx with hx | rfl
    · exact ih _ x hx
    · omega
def fixVal (l : List Int) : Nat := l.foldl (fun v c => v * 256 + c.toNat) 0
theorem fixVal_snoc (l : List Int) (c : Int) : fixVal (l ++ [c]) = fixVal l * 256 + c.toNat := by simp [fixVal]
theorem fixVal_lt (l : List Int) (h : Byt l) : fixVal l < 256 ^ l.length := by
  have : ∀ (r : List Int), Byt r.reverse → fixVal r.reverse < 256 ^ r.length := by
    intro r
    induction r with
    | nil => intro _; simp [fixVal]
    | cons c t ih =>
      intro hb
      rw [List.reverse_cons] at hb ⊢
      have h1 := ih (fun x hx => hb x (List.mem_append_left _ hx))
      have h2 := hb c (by simp)
      rw [fixVal_snoc, List.length_cons, Nat.pow_succ]
      omega
  have h2 := this l.reverse (by rw [List.reverse_reverse]; exact h)
  rwa [List.reverse_reverse, List.length_reverse] at h2
def tf (l : List Int) (s : Int) : Int × List Int × Bool := if 1 ≤ s ∧ s ≤ 8 ∧ s ≤ l.length then ((fixVal (l.take s.toNat) : Int), l.drop s.toNat, true) else (0, [], false)
def fx (n : Int) (s : Int) : List Int := if 1 ≤ s ∧ s ≤ 8 then fixEnc n.toNat s.toNat else []
theorem fixVal_small {l : List Int} {i : Nat} (hb : Byt l) (hi : i ≤ 8) : fixVal (l.take i) < 18446744073709551616 := by
  have h1 := fixVal_lt (l.take i) (hb.take i)
  have h2 : 256 ^ (l.take i).length ≤ 256 ^ 8 := Nat.pow_le_pow_right (by decide) (by rw [List.length_take]; omega)
  have h3 : 256 ^ 8 = 18446744073709551616 := by decide
  rw [h3] at h2
  exact Nat.lt_of_lt_of_le h1 h2
theorem fixVal_step {l : List Int} {i : Nat} (hb : Byt l) (h : i < l.length) : fixVal (l.take (i + 1)) = fixVal (l.take i) * 256 + (rd l (i : Int)).toNat := by
  rw [List.take_succ_eq_append_getElem h, fixVal_snoc, rd_nat, List.getD_eq_getElem?_getD, List.getElem?_eq_getElem h]; rfl
theorem fixVal_small7 {l : List Int} {i : Nat} (hb : Byt l) (hi : i ≤ 7) : fixVal (l.take i) < 72057594037927936 := by
  have h1 := fixVal_lt (l.take i) (hb.take i)
  have h2 : 256 ^ (l.take i).length ≤ 256 ^ 7 := Nat.pow_le_pow_right (by decide) (by rw [List.length_take]; omega)
  have h3 : 256 ^ 7 = 72057594037927936 := by decide
  rw [h3] at h2
  exact Nat.lt_of_lt_of_le h1 h2

theorem u64_and255 {x : Int} (h0 : 0 ≤ x) (h1 : x < 18446744073709551616) : Go.bits .and .u64 x 255 = x % 256 := Go.bits_mask .u64 64 (by decide) wraps_u64 8 (by decide) x h0 h1
theorem set_rep (m : Nat) (c : Int) (suf : List Int) : (List.replicate (m + 1) (0 : Int) ++ suf).set m c = List.replicate m 0 ++ c :: suf := by
  rw [List.replicate_succ', List.append_assoc, List.set_append_right _ _ (by simp)]
  simp
theorem code_Fixed_l0 (m : Nat) : ∀ (k q : Nat) (suf : List Int), q < 18446744073709551616 → m ≤ 8 → m + 1 ≤ k →
    code_Fixed.l0 k (q : Int) (List.replicate m 0 ++ suf) ((m : Int) - 1) = some (fixEnc q m ++ suf) := by
  induction m with
  | zero =>
    intro k q suf hq hm hk
    obtain ⟨k, rfl⟩ : ∃ m, k = m + 1 := ⟨k - 1, by omega⟩
    simp only [code_Fixed.l0]
    rw [if_neg (by omega)]; rfl
  | succ m ih =>
    intro k q suf hq hm hk
    obtain ⟨k, rfl⟩ : ∃ m, k = m + 1 := ⟨k - 1, by omega⟩
    simp only [code_Fixed.l0]
    have hlen : (List.replicate (m + 1) (0 : Int) ++ suf).length = m + 1 + suf.length := by simp
    rw [if_pos (by omega), if_pos (by omega), if_pos (by rw [hlen]; omega)]
    rw [show (((m + 1 : Nat) : Int) - 1) = (m : Int) by omega, wrap64_id (by omega) (by omega), Int.toNat_natCast, set_rep, u64_and255 (by omega) (by omega)]
    rw [show ((q : Int) % 256 % 256) = ((q % 256 : Nat) : Int) by omega, show ((q : Int) / 256) = ((q / 256 : Nat) : Int) by omega]
    rw [ih k (q / 256) (((q % 256 : Nat) : Int) :: suf) (by omega) (by omega) (by omega)]
    simp [fixEnc]
theorem code_Fixed_ev (n s : Int) (h0 : 0 ≤ n) (h1 : n < 18446744073709551616) : Ev (fun k => code_Fixed.f k n s) (fx n s) := by
  refine ⟨20, fun k hk => ?_⟩
  obtain ⟨k, rfl⟩ : ∃ m, k = m + 1 := ⟨k - 1, by omega⟩
  show code_Fixed.f (k + 1) n s = _
  unfold code_Fixed.f fx
  by_cases c1 : s < 1
  · rw [if_pos c1, if_neg (by omega)]
    simp only [code_Fixed.j0]; rw [if_pos trivial]
  · rw [if_neg c1]
    by_cases c2 : s > 8
    · rw [decide_eq_true c2, if_neg (by omega)]
      simp only [code_Fixed.j0]; rw [if_pos trivial]
    · rw [decide_eq_false c2, if_pos (by omega)]
      simp only [code_Fixed.j0]
      rw [if_neg (by decide), if_pos (by omega), if_pos (by omega), wrap64_id (by omega) (by omega)]
      have := code_Fixed_l0 s.toNat k n.toNat [] (by omega) (by omega) (by omega)
      rw [List.append_nil, List.append_nil, Int.toNat_of_nonneg h0, Int.toNat_of_nonneg (by omega : 0 ≤ s)] at this
      exact this

theorem behind_at (l : List Int) (i : Nat) (h : i ≤ l.length) (hl : l.length ≤ 140737488351232) : code_behind.f l (i : Int) = some (l.drop i) := by
  unfold code_behind.f
  simp only [Option.bind_some]
  rw [if_pos (by omega), if_pos (by omega), if_pos (by simp; omega)]
  simp

theorem take_fix_step {v : Nat} {c : Int} (hv : v < 72057594037927936) (c0 : 0 ≤ c) (c1 : c < 256) : Go.bits .or .u64 (IntKind.u64.wrap ((v : Int) * 256)) (IntKind.u64.wrap c) = ((v * 256 + c.toNat : Nat) : Int) := by
  rw [wu64, wu64, show (v : Int) * 256 % 18446744073709551616 = (v : Int) * 256 by omega, show c % 18446744073709551616 = c by omega]
  rw [u64_join 8 (by omega) (by omega) (by omega) c0 (by omega) (by omega)]
  omega
theorem code_TakeFixed_l0 (l : List Int) (hb : Byt l) (hl : l.length ≤ 140737488351232) (s : Nat) (hs : s ≤ 8) (hsl : s ≤ l.length) (d : Nat) : ∀ (i k : Nat), s - i = d → i ≤ s → d + 1 ≤ k →
    code_TakeFixed.l0 k l (s : Int) (fixVal (l.take i) : Int) (l.take s) ((l.take s).length : Int) (i : Int) = some ((fixVal (l.take s) : Int), l.drop s, true) := by
  have hlen : (l.take s).length = s := by rw [List.length_take]; omega
  induction d with
  | zero =>
    intro i k hd hi hk
    obtain ⟨k, rfl⟩ : ∃ m, k = m + 1 := ⟨k - 1, by omega⟩
    obtain rfl : i = s := by omega
    simp only [code_TakeFixed.l0]
    rw [if_neg (by omega), behind_at l i hsl hl]; rfl
  | succ d ih =>
    intro i k hd hi hk
    obtain ⟨k, rfl⟩ : ∃ m, k = m + 1 := ⟨k - 1, by omega⟩
    simp only [code_TakeFixed.l0]
    rw [if_pos (by omega), if_pos (by omega), if_pos (by omega)]
    have hr : rd (l.take s) (i : Int) = rd l (i : Int) := by rw [rd_nat, rd_nat, List.getD_eq_getElem?_getD, List.getD_eq_getElem?_getD, List.getElem?_take_of_lt (by omega)]
    obtain ⟨c0, c1⟩ := hb.rd (i : Int)
    rw [hr, take_fix_step (fixVal_small7 hb (by omega)) c0 c1, wrap64_id (by omega) (by omega), ← fixVal_step hb (by omega)]
    exact ih (i + 1) k (by omega) (by omega) (by omega)
theorem code_TakeFixed_ev (l : List Int) (s : Int) (hb : Byt l) (hl : l.length ≤ 140737488351232) : Ev (fun k => code_TakeFixed.f k l s) (tf l s) := by
  refine ⟨20, fun k hk => ?_⟩
  obtain ⟨k, rfl⟩ : ∃ m, k = m + 1 := ⟨k - 1, by omega⟩
  show code_TakeFixed.f (k + 1) l s = _
  unfold code_TakeFixed.f tf
  by_cases c1 : s < 1
  · rw [if_pos c1, if_neg (by omega)]
    simp only [code_TakeFixed.j0]; rw [if_pos trivial]
  · rw [if_neg c1]
    by_cases c2 : s > 8
    · rw [if_pos c2, if_neg (by omega)]
      simp only [code_TakeFixed.j0]; rw [if_pos trivial]
    · rw [if_neg c2]
      by_cases c3 : (l.length : Int) < s
      · rw [decide_eq_true c3, if_neg (by omega)]
        simp only [code_TakeFixed.j0]; rw [if_pos trivial]
      · rw [decide_eq_false c3, if_pos (by omega)]
        simp only [code_TakeFixed.j0]
        rw [if_neg (by decide), if_pos (by omega), if_pos (by omega)]
        have := code_TakeFixed_l0 l hb hl s.toNat (by omega) (by omega) s.toNat 0 k (by omega) (by omega) (by omega)
        rw [Int.toNat_of_nonneg (by omega : 0 ≤ s)] at this
        exact this

theorem ref_TakeFixed_l0 (l : List Int) (hb : Byt l) (hl : l.length ≤ 140737488351232) (s : Nat) (hs : s ≤ 8) (hsl : s ≤ l.length) (d : Nat) : ∀ (i k : Nat), s - i = d → i ≤ s → d + 1 ≤ k →
    lienref02_TakeFixed.l0 k l (s : Int) (fixVal (l.take i) : Int) (i : Int) = some ((fixVal (l.take s) : Int), l.drop s, true) := by
  induction d with
  | zero =>
    intro i k hd hi hk
    obtain ⟨k, rfl⟩ : ∃ m, k = m + 1 := ⟨k - 1, by omega⟩
    obtain rfl : i = s := by omega
    simp only [lienref02_TakeFixed.l0]
    rw [if_neg (by omega), Option.bind_some, if_pos (by omega), if_pos (by omega), if_pos (by rw [List.length_drop, List.length_nil]; omega), List.nil_append, Int.toNat_natCast]
  | succ d ih =>
    intro i k hd hi hk
    obtain ⟨k, rfl⟩ : ∃ m, k = m + 1 := ⟨k - 1, by omega⟩
    simp only [lienref02_TakeFixed.l0]
    rw [if_pos (by omega), if_pos (by omega), if_pos (by omega)]
    obtain ⟨c0, c1⟩ := hb.rd (i : Int)
    have h7 := fixVal_small7 (l := l) (i := i) hb (by omega)
    have e : IntKind.u64.wrap (IntKind.u64.wrap ((fixVal (l.take i) : Int) * 256) + IntKind.u64.wrap (rd l (i : Int))) = (fixVal (l.take (i + 1)) : Int) := by
      rw [wu64, wu64, wu64, fixVal_step hb (by omega)]; omega
    rw [e, wrap64_id (by omega) (by omega)]
    exact ih (i + 1) k (by omega) (by omega) (by omega)
theorem ref_TakeFixed_ev (l : List Int) (s : Int) (hb : Byt l) (hl : l.length ≤ 140737488351232) : Ev (fun k => lienref02_TakeFixed.f k l s) (tf l s) := by
  refine ⟨20, fun k hk => ?_⟩
  obtain ⟨k, rfl⟩ : ∃ m, k = m + 1 := ⟨k - 1, by omega⟩
  show lienref02_TakeFixed.f (k + 1) l s = _
  unfold lienref02_TakeFixed.f tf
  by_cases c1 : s < 1
  · rw [if_pos c1, if_neg (by omega)]
    simp only [lienref02_TakeFixed.j0]; rw [if_pos trivial]
  · rw [if_neg c1]
    by_cases c2 : s > 8
    · rw [if_pos c2, if_neg (by omega)]
      simp only [lienref02_TakeFixed.j0]; rw [if_pos trivial]
    · rw [if_neg c2]
      by_cases c3 : (l.length : Int) < s
      · rw [decide_eq_true c3, if_neg (by omega)]
        simp only [lienref02_TakeFixed.j0]; rw [if_pos trivial]
      · rw [decide_eq_false c3, if_pos (by omega)]
        simp only [lienref02_TakeFixed.j0]
        rw [if_neg (by decide)]
        have := ref_TakeFixed_l0 l hb hl s.toNat (by omega) (by omega) s.toNat 0 k (by omega) (by omega) (by omega)
        rw [Int.toNat_of_nonneg (by omega : 0 ≤ s)] at this
        exact this

theorem ref_Fixed_l1 (low : List Int) (hl : low.length ≤ 8) (m : Nat) : ∀ (k : Nat) (acc : List Int), m ≤ low.length → acc.length + m ≤ 8 → m + 1 ≤ k →
    lienref02_Fixed.l1 k low acc ((m : Int) - 1) = some (acc ++ (low.take m).reverse) := by
  induction m with
  | zero =>
    intro k acc hm ha hk
    obtain ⟨k, rfl⟩ : ∃ m, k = m + 1 := ⟨k - 1, by omega⟩
    simp only [lienref02_Fixed.l1]
    rw [if_neg (by omega)]; simp
  | succ m ih =>
    intro k acc hm ha hk
    obtain ⟨k, rfl⟩ : ∃ m, k = m + 1 := ⟨k - 1, by omega⟩
    simp only [lienref02_Fixed.l1]
    rw [if_pos (by omega), if_pos (by omega), if_pos (by omega), if_pos (by omega), show (((m + 1 : Nat) : Int) - 1) = (m : Int) by omega, wrap64_id (by omega) (by omega)]
    rw [ih k (acc ++ [rd low (m : Int)]) (by omega) (by simp; omega) (by omega)]
    rw [List.take_succ_eq_append_getElem (by omega), rd_nat, List.getD_eq_getElem?_getD, List.getElem?_eq_getElem (by omega), List.reverse_append]
    simp
theorem ref_Fixed_l0 (s : Nat) (hs : s ≤ 8) (hs1 : 1 ≤ s) (d : Nat) : ∀ (i k q : Nat) (low : List Int), s - i = d → i ≤ s → low.length = i → q < 18446744073709551616 → d + s + 2 ≤ k →
    lienref02_Fixed.l0 k (q : Int) (s : Int) low (i : Int) = some (fixEnc q d ++ low.reverse) := by
  induction d with
  | zero =>
    intro i k q low hd hi hlow hq hk
    obtain ⟨k, rfl⟩ : ∃ m, k = m + 1 := ⟨k - 1, by omega⟩
    obtain rfl : i = s := by omega
    simp only [lienref02_Fixed.l0]
    rw [if_neg (by omega), wrap64_id (by omega) (by omega), ref_Fixed_l1 low (by omega) i k [] (by omega) (by simp; omega) (by omega), List.take_of_length_le (by omega)]
    rfl
  | succ d ih =>
    intro i k q low hd hi hlow hq hk
    obtain ⟨k, rfl⟩ : ∃ m, k = m + 1 := ⟨k - 1, by omega⟩
    simp only [lienref02_Fixed.l0]
    rw [if_pos (by omega), if_pos (by omega), Int.tdiv_eq_ediv_of_nonneg (by omega), Int.tmod_eq_emod_of_nonneg (by omega), wu64, wrap64_id (by omega) (by omega)]
    rw [show ((q : Int) / 256 % 18446744073709551616) = ((q / 256 : Nat) : Int) by omega, show ((q : Int) % 256 % 256) = ((q % 256 : Nat) : Int) by omega]
    have := ih (i + 1) k (q / 256) (low ++ [((q % 256 : Nat) : Int)]) (by omega) (by omega) (by simp; omega) (by omega) (by omega)
    rw [show (i : Int) + 1 = ((i + 1 : Nat) : Int) by omega, this]
    simp [fixEnc]
theorem ref_Fixed_ev (n s : Int) (h0 : 0 ≤ n) (h1 : n < 18446744073709551616) : Ev (fun k => lienref02_Fixed.f k n s) (fx n s) := by
  refine ⟨30, fun k hk => ?_⟩
  obtain ⟨k, rfl⟩ : ∃ m, k = m + 1 := ⟨k - 1, by omega⟩
  show lienref02_Fixed.f (k + 1) n s = _
  unfold lienref02_Fixed.f fx
  by_cases c1 : s < 1
  · rw [if_pos c1, if_neg (by omega)]
    simp only [lienref02_Fixed.j0]; rw [if_pos trivial]
  · rw [if_neg c1]
    by_cases c2 : s > 8
    · rw [decide_eq_true c2, if_neg (by omega)]
      simp only [lienref02_Fixed.j0]; rw [if_pos trivial]
    · rw [decide_eq_false c2, if_pos (by omega)]
      simp only [lienref02_Fixed.j0]
      rw [if_neg (by decide)]
      have := ref_Fixed_l0 s.toNat (by omega) (by omega) s.toNat 0 k n.toNat [] (by omega) (by omega) rfl (by omega) (by omega)
      rw [Int.toNat_of_nonneg h0, Int.toNat_of_nonneg (by omega : 0 ≤ s), List.reverse_nil, List.append_nil] at this
      exact this

theorem awake02 : Ev (fun k => lienlaw02_awake.f k) true := Ev.of (fun k => lienlaw02_awake.mono k) (k := 20) (by kernel_rfl)

theorem cut_some (l : List Int) : ∃ t, lienlaw02_cut.f l = some t ∧ t.length ≤ l.length ∧ (∀ x ∈ t, x ∈ l) := by
  unfold lienlaw02_cut.f
  split
  · rw [if_pos (by omega)]
    exact ⟨_, rfl, by rw [List.length_take]; omega, fun x hx => List.mem_of_mem_take hx⟩
  · exact ⟨l, rfl, Nat.le_refl _, fun x hx => hx⟩

theorem CodeFixed : lienlaw02_CodeFixed.Pure := by
  intro n s l hn _ _ hl hb
  obtain ⟨h0, h1⟩ := wf_u64 hn
  obtain ⟨t, ht, htl, htm⟩ := cut_some l
  have hbt : Byt t := fun x hx => Byt.of_wf hb x (htm x hx)
  refine Ev.rounds ?_
  unfold lienlaw02_CodeFixed.f
  refine Ev.bind (g := fun _ => lienlaw02_cut.f l) (a := t) (ht ▸ Ev.now t) ?_
  refine Ev.bind (code_TakeFixed_ev t s hbt (by omega)) ?_
  refine Ev.bind (ref_TakeFixed_ev t s hbt (by omega)) ?_
  refine Ev.bind (code_Fixed_ev n s h0 h1) ?_
  refine Ev.bind (ref_Fixed_ev n s h0 h1) ?_
  simp only [if_true, beq_self_eq_true]
  exact Ev.bind awake02 (Ev.now true)

end Go.Proofs.Ytlehgphnjpgjnaa.Pure
