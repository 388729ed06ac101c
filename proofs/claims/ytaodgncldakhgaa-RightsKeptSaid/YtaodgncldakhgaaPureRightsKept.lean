/- Written for the statement RightsKept over the program's printed functions: numbers and lists alone. -/
import Derived.Test.YtaodgncldakhgaaPRightsKeptx
set_option linter.unusedVariables false
set_option linter.unusedSimpArgs false
namespace Go.Proofs.Ytaodgncldakhgaa.Pure
open Go.RowKit Go.Proofs.Ytaodgncldakhgaa.PRightsKept Go.Proofs.YtaodgncldakhgaaW Go.Proofs.YtaodgncldakhgaaW.PrintWords Go.Proofs.YtaodgncldakhgaaW.PrintLast Go.Proofs.YtaodgncldakhgaaW.PrintMore

theorem wrap64_id {x : Int} (h0 : -9223372036854775808 ≤ x) (h1 : x ≤ 9223372036854775807) : wrap64 x = x := by unfold wrap64; omega
theorem wu64 (n : Int) : IntKind.u64.wrap n = n % 18446744073709551616 := by simp [IntKind.wrap, IntKind.bits, IntKind.signed]
theorem wraps_u64 (n : Int) (h0 : 0 ≤ n) (h1 : n < 2 ^ 64) : IntKind.u64.wrap n = n := by rw [wu64]; omega
theorem u64_and127 {x : Int} (h0 : 0 ≤ x) (h1 : x < 18446744073709551616) : Go.bits .and .u64 x 127 = x % 128 := Go.bits_mask .u64 64 (by decide) wraps_u64 7 (by decide) x h0 h1
theorem u8_and127 {x : Int} (h0 : 0 ≤ x) (h1 : x < 256) : Go.bits .and .u8 x 127 = x % 128 := Go.bits_mask .u8 8 (by decide) Go.wraps_u8 7 (by decide) x h0 h1
theorem bits_comm_or (k : IntKind) (x y : Int) : Go.bits .or k x y = Go.bits .or k y x := by simp [Go.bits, BitVec.or_comm]
theorem u8_or_128 {x : Int} (h0 : 0 ≤ x) (h1 : x < 128) : Go.bits .or .u8 x 128 = x + 128 := by
  rw [bits_comm_or, Go.bits_join .u8 8 (by decide) Go.wraps_u8 7 128 x (by decide) (by decide) (by decide) h0 h1 (by omega)]; omega
theorem u64_join (i : Nat) {x y : Int} (hx0 : 0 ≤ x) (hx : x % 2 ^ i = 0) (hx1 : x < 18446744073709551616) (hy0 : 0 ≤ y) (hy : y < 2 ^ i) (hy1 : y < 18446744073709551616) : Go.bits .or .u64 x y = x + y :=
  Go.bits_join .u64 64 (by decide) wraps_u64 i x y hx0 hx hx1 hy0 hy hy1
theorem wf_u64 {x : Int} (h : (Lit.int .u64 x).wf = true) : 0 ≤ x ∧ x < 18446744073709551616 := by
  simp [Lit.wf, IntKind.min, IntKind.max, IntKind.bits, IntKind.signed] at h; omega
theorem wf_u8 {x : Int} (h : (Lit.int .u8 x).wf = true) : 0 ≤ x ∧ x < 256 := by
  simp [Lit.wf, IntKind.min, IntKind.max, IntKind.bits, IntKind.signed] at h; omega
theorem wf_i64 {x : Int} (h : (Lit.int .i64 x).wf = true) : -9223372036854775808 ≤ x ∧ x ≤ 9223372036854775807 := by
  simp [Lit.wf, IntKind.min, IntKind.max, IntKind.bits, IntKind.signed] at h; omega
def Byt (l : List Int) : Prop := ∀ x ∈ l, 0 ≤ x ∧ x < 256
theorem Byt.of_wf {l : List Int} (h : ∀ x ∈ l, (Lit.int .u8 x).wf = true) : Byt l := fun x hx => wf_u8 (h x hx)
theorem Byt.rd {l : List Int} (h : Byt l) (i : Int) : 0 ≤ rd l i ∧ rd l i < 256 := by
  unfold PrintWords.rd
  rw [List.getD_eq_getElem?_getD]
  cases e : l[i.toNat]? with
  | none => simp
  | some x => exact h x (List.mem_of_getElem? e)
theorem Byt.take {l : List Int} (h : Byt l) (n : Nat) : Byt (l.take n) := fun x hx => h x (List.mem_of_mem_take hx)
theorem Byt.drop {l : List Int} (h : Byt l) (n : Nat) : Byt (l.drop n) := fun x hx => h x (List.mem_of_mem_drop hx)
theorem rd_nat (l : List Int) (i : Nat) : rd l (i : Int) = l.getD i 0 := by unfold PrintWords.rd; simp
theorem rd_drop {l : List Int} {i : Nat} (h : i < l.length) : l.drop i = rd l (i : Int) :: l.drop (i + 1) := by
  rw [rd_nat, List.drop_eq_getElem_cons h]; simp [List.getD_eq_getElem?_getD, List.getElem?_eq_getElem h]

theorem within_val (a b c : Int) : rights_within.f a b c = some (decide (b ≤ a ∧ a ≤ c)) := by
  unfold rights_within.f
  by_cases h : a ≥ b
  · rw [if_pos h]
    exact congrArg some (decide_eq_decide.mpr (by omega))
  · rw [if_neg h, decide_eq_false (by omega)]
theorem wi (x : Int) (h0 : -9223372036854775808 ≤ x) (h1 : x ≤ 9223372036854775807) : wrap64 x = x := by unfold wrap64; omega
def snd (F H Q : Int) : Prop := (0 ≤ F ∧ F ≤ 1125899906842624) ∧ (0 ≤ H ∧ H ≤ 1125899906842624) ∧ (0 ≤ Q ∧ Q ≤ 1125899906842624) ∧ F + H ≤ 1125899906842624
def hld (N U : Int) : Prop := (1 ≤ N ∧ N ≤ 1125899906842624) ∧ (0 ≤ U ∧ U ≤ 1099511627776)
instance (F H Q : Int) : Decidable (snd F H Q) := by unfold snd; infer_instance
instance (N U : Int) : Decidable (hld N U) := by unfold hld; infer_instance
theorem sound_val (F H Q : Int) : rights_sound.f F H Q = some (decide (snd F H Q)) := by
  unfold rights_sound.f
  rw [within_val, within_val, within_val]
  by_cases h1 : 0 ≤ F ∧ F ≤ 1125899906842624
  · rw [decide_eq_true h1, Option.bind_some, if_pos rfl]
    by_cases h2 : 0 ≤ H ∧ H ≤ 1125899906842624
    · rw [decide_eq_true h2, Option.bind_some, if_pos rfl]
      by_cases h3 : 0 ≤ Q ∧ Q ≤ 1125899906842624
      · rw [decide_eq_true h3, Option.bind_some, if_pos rfl, wi _ (by omega) (by omega)]
        exact congrArg some (decide_eq_decide.mpr (by unfold snd; omega))
      · rw [decide_eq_false h3, Option.bind_some, if_neg (by decide), decide_eq_false (by unfold snd; omega)]
    · rw [decide_eq_false h2, Option.bind_some, if_neg (by decide), decide_eq_false (by unfold snd; omega)]
  · rw [decide_eq_false h1, Option.bind_some, if_neg (by decide), decide_eq_false (by unfold snd; omega)]

theorem holds_val (N U : Int) : rights_holds.f N U = some (decide (hld N U)) := by
  unfold rights_holds.f
  rw [within_val, within_val]
  by_cases h1 : 1 ≤ N ∧ N ≤ 1125899906842624
  · rw [decide_eq_true h1, Option.bind_some, if_pos rfl, Option.bind_some]
    exact congrArg some (decide_eq_decide.mpr (by unfold hld; omega))
  · rw [decide_eq_false h1, Option.bind_some, if_neg (by decide), decide_eq_false (by unfold hld; omega)]
def rsv (F H Q N U : Int) : Int × Int × Int × Int := if snd F H Q ∧ hld N U then (if F < N then (0, 0, 0, 201) else if H + N > Q then (0, 0, 0, 205) else (F - N, H + N, Q, 0)) else (0, 0, 0, 206)
def cnl (F H Q N U : Int) : Int × Int × Int × Int := if snd F H Q ∧ hld N U then (if H < N then (0, 0, 0, 201) else (F + N, H - N, Q, 0)) else (0, 0, 0, 206)
def cnf (F H Q N U t : Int) : Int × Int × Int × Int := if snd F H Q ∧ hld N U then (if 0 ≤ t ∧ t ≤ 1099511627776 then (if U < t then (0, 0, 0, 204) else if H < N then (0, 0, 0, 201) else (F, H - N, Q, 0)) else (0, 0, 0, 1)) else (0, 0, 0, 206)
def xpr (F H Q N U t : Int) : Int × Int × Int × Int := if snd F H Q ∧ hld N U then (if 0 ≤ t ∧ t ≤ 1099511627776 then (if U ≥ t then (F, H, Q, 0) else cnl F H Q N U) else (0, 0, 0, 1)) else (0, 0, 0, 206)
def mor (F H Q n : Int) : Int × Int × Int × Int := if snd F H Q then (if 1 ≤ n ∧ n ≤ 1125899906842624 then (if F + H + n > 1125899906842624 then (0, 0, 0, 200) else (F + n, H, Q, 0)) else (0, 0, 0, 1)) else (0, 0, 0, 206)
def les (F H Q n : Int) : Int × Int × Int × Int := if snd F H Q then (if 1 ≤ n ∧ n ≤ 1125899906842624 then (if F < n then (0, 0, 0, 201) else (F - n, H, Q, 0)) else (0, 0, 0, 1)) else (0, 0, 0, 206)
def quo (F H Q n : Int) : Int × Int × Int × Int := if snd F H Q then (if 0 ≤ n ∧ n ≤ 1125899906842624 then (F, H, n, 0) else (0, 0, 0, 1)) else (0, 0, 0, 206)

theorem code_Reserve_ev (F H Q N U : Int) : Ev (fun k => rights_Reserve.f k F H Q N U) (rsv F H Q N U) := ⟨1, fun k hk => by
  obtain ⟨k, rfl⟩ : ∃ m, k = m + 1 := ⟨k - 1, by omega⟩
  show rights_Reserve.f (k + 1) F H Q N U = _
  unfold rights_Reserve.f rsv
  rw [sound_val, holds_val]
  by_cases hs : snd F H Q
  · rw [decide_eq_true hs, Option.bind_some, if_pos rfl]
    by_cases hh : hld N U
    · rw [decide_eq_true hh, Option.bind_some, if_pos ⟨hs, hh⟩, rights_Reserve.j0, if_neg (by decide)]
      unfold snd at hs
      unfold hld at hh
      rw [wi (H + N) (by omega) (by omega), wi (F - N) (by omega) (by omega)]
      split
      · rfl
      · split <;> rfl
    · rw [decide_eq_false hh, Option.bind_some, if_neg (fun h => hh h.2), rights_Reserve.j0, if_pos (by decide)]
  · rw [decide_eq_false hs, Option.bind_some, if_neg (by decide), if_neg (fun h => hs h.1), rights_Reserve.j0, if_pos rfl]⟩

theorem code_Cancel_val (k : Nat) (F H Q N U : Int) : rights_Cancel.f (k + 1) F H Q N U = some (cnl F H Q N U) := by
  unfold rights_Cancel.f cnl
  rw [sound_val, holds_val]
  by_cases hs : snd F H Q
  · rw [decide_eq_true hs, Option.bind_some, if_pos rfl]
    by_cases hh : hld N U
    · rw [decide_eq_true hh, Option.bind_some, if_pos ⟨hs, hh⟩, rights_Cancel.j0, if_neg (by decide)]
      unfold snd at hs
      unfold hld at hh
      rw [wi (F + N) (by omega) (by omega), wi (H - N) (by omega) (by omega)]
      split <;> rfl
    · rw [decide_eq_false hh, Option.bind_some, if_neg (fun h => hh h.2), rights_Cancel.j0, if_pos (by decide)]
  · rw [decide_eq_false hs, Option.bind_some, if_neg (by decide), if_neg (fun h => hs h.1), rights_Cancel.j0, if_pos rfl]
theorem code_Cancel_ev (F H Q N U : Int) : Ev (fun k => rights_Cancel.f k F H Q N U) (cnl F H Q N U) := ⟨1, fun k hk => by
  obtain ⟨k, rfl⟩ : ∃ m, k = m + 1 := ⟨k - 1, by omega⟩
  exact code_Cancel_val k F H Q N U⟩

theorem rwithin_val (a : Int) : lienref20_within.f a = some (decide (0 ≤ a ∧ a ≤ 1125899906842624)) := by
  unfold lienref20_within.f
  by_cases h : a ≥ 0
  · rw [if_pos h]
    exact congrArg some (decide_eq_decide.mpr (by omega))
  · rw [if_neg h, decide_eq_false (by omega)]
theorem rcheck_val (F H Q : Int) : lienref20_Check.f F H Q = some (if snd F H Q then 0 else 206) := by
  unfold lienref20_Check.f
  rw [rwithin_val, rwithin_val, rwithin_val]
  by_cases h1 : 0 ≤ F ∧ F ≤ 1125899906842624
  · rw [decide_eq_true h1, Option.bind_some, if_pos rfl]
    by_cases h2 : 0 ≤ H ∧ H ≤ 1125899906842624
    · rw [decide_eq_true h2, Option.bind_some, if_pos rfl]
      by_cases h3 : 0 ≤ Q ∧ Q ≤ 1125899906842624
      · rw [decide_eq_true h3, Option.bind_some, if_pos rfl, wi _ (by omega) (by omega)]
        by_cases h4 : F + H > 1125899906842624
        · rw [if_pos h4, if_neg (by unfold snd; omega)]
        · rw [if_neg h4, if_pos (by unfold snd; omega)]
      · rw [decide_eq_false h3, Option.bind_some, if_neg (by decide), if_neg (by unfold snd; omega)]
    · rw [decide_eq_false h2, Option.bind_some, if_neg (by decide), if_neg (by unfold snd; omega)]
  · rw [decide_eq_false h1, Option.bind_some, if_neg (by decide), if_neg (by unfold snd; omega)]

theorem code_Confirm_ev (F H Q N U t : Int) : Ev (fun k => rights_Confirm.f k F H Q N U t) (cnf F H Q N U t) := ⟨1, fun k hk => by
  obtain ⟨k, rfl⟩ : ∃ m, k = m + 1 := ⟨k - 1, by omega⟩
  show rights_Confirm.f (k + 1) F H Q N U t = _
  unfold rights_Confirm.f cnf
  rw [sound_val, holds_val]
  by_cases hs : snd F H Q
  · rw [decide_eq_true hs, Option.bind_some, if_pos rfl]
    by_cases hh : hld N U
    · rw [decide_eq_true hh, Option.bind_some, if_pos ⟨hs, hh⟩, rights_Confirm.j0, if_neg (by decide), within_val, Option.bind_some]
      unfold snd at hs
      unfold hld at hh
      rw [wi (H - N) (by omega) (by omega)]
      by_cases ht : 0 ≤ t ∧ t ≤ 1099511627776
      · rw [decide_eq_true ht, if_pos rfl, if_pos ht]
        split
        · rfl
        · split <;> rfl
      · rw [decide_eq_false ht, if_neg (by decide), if_neg ht]
    · rw [decide_eq_false hh, Option.bind_some, if_neg (fun h => hh h.2), rights_Confirm.j0, if_pos (by decide)]
  · rw [decide_eq_false hs, Option.bind_some, if_neg (by decide), if_neg (fun h => hs h.1), rights_Confirm.j0, if_pos rfl]⟩
theorem code_Expire_ev (F H Q N U t : Int) : Ev (fun k => rights_Expire.f k F H Q N U t) (xpr F H Q N U t) := ⟨2, fun k hk => by
  obtain ⟨k, rfl⟩ : ∃ m, k = m + 1 + 1 := ⟨k - 2, by omega⟩
  show rights_Expire.f (k + 1 + 1) F H Q N U t = _
  unfold rights_Expire.f xpr
  rw [sound_val, holds_val]
  by_cases hs : snd F H Q
  · rw [decide_eq_true hs, Option.bind_some, if_pos rfl]
    by_cases hh : hld N U
    · rw [decide_eq_true hh, Option.bind_some, if_pos ⟨hs, hh⟩, rights_Expire.j0, if_neg (by decide), within_val, Option.bind_some, code_Cancel_val, Option.bind_some]
      by_cases ht : 0 ≤ t ∧ t ≤ 1099511627776
      · rw [decide_eq_true ht, if_pos rfl, if_pos ht]
        split <;> rfl
      · rw [decide_eq_false ht, if_neg (by decide), if_neg ht]
    · rw [decide_eq_false hh, Option.bind_some, if_neg (fun h => hh h.2), rights_Expire.j0, if_pos (by decide)]
  · rw [decide_eq_false hs, Option.bind_some, if_neg (by decide), if_neg (fun h => hs h.1), rights_Expire.j0, if_pos rfl]⟩

theorem more_val (F H Q n : Int) : rights_more.f F H Q n = some (mor F H Q n) := by
  unfold rights_more.f mor
  rw [sound_val, within_val, Option.bind_some]
  by_cases hs : snd F H Q
  · rw [decide_eq_true hs, if_pos rfl, if_pos hs, Option.bind_some]
    by_cases hn : 1 ≤ n ∧ n ≤ 1125899906842624
    · rw [decide_eq_true hn, if_pos rfl, if_pos hn]
      unfold snd at hs
      rw [wi (1125899906842624 - F) (by omega) (by omega), wi (1125899906842624 - F - H) (by omega) (by omega), wi (F + n) (by omega) (by omega)]
      by_cases c : n > 1125899906842624 - F - H
      · rw [if_pos c, if_pos (by omega)]
      · rw [if_neg c, if_neg (by omega)]
    · rw [decide_eq_false hn, if_neg (by decide), if_neg hn]
  · rw [decide_eq_false hs, if_neg (by decide), if_neg hs]

theorem less_val (F H Q n : Int) : rights_less.f F H Q n = some (les F H Q n) := by
  unfold rights_less.f les
  rw [sound_val, within_val, Option.bind_some]
  by_cases hs : snd F H Q
  · rw [decide_eq_true hs, if_pos rfl, if_pos hs, Option.bind_some]
    by_cases hn : 1 ≤ n ∧ n ≤ 1125899906842624
    · rw [decide_eq_true hn, if_pos rfl, if_pos hn]
      unfold snd at hs
      rw [wi (F - n) (by omega) (by omega)]
      split <;> rfl
    · rw [decide_eq_false hn, if_neg (by decide), if_neg hn]
  · rw [decide_eq_false hs, if_neg (by decide), if_neg hs]
theorem spend_val (F H Q n : Int) : rights_Spend.f F H Q n = some (les F H Q n) := by unfold rights_Spend.f; rw [less_val]; rfl
theorem debit_val (F H Q n : Int) : rights_Debit.f F H Q n = some (les F H Q n) := by unfold rights_Debit.f; rw [less_val]; rfl
theorem quota_val (F H Q n : Int) : rights_Quota.f F H Q n = some (quo F H Q n) := by
  unfold rights_Quota.f quo
  rw [sound_val, within_val, Option.bind_some]
  by_cases hs : snd F H Q
  · rw [decide_eq_true hs, if_pos rfl, if_pos hs, Option.bind_some]
    by_cases hn : 0 ≤ n ∧ n ≤ 1125899906842624
    · rw [decide_eq_true hn, if_pos rfl, if_pos hn]
    · rw [decide_eq_false hn, if_neg (by decide), if_neg hn]
  · rw [decide_eq_false hs, if_neg (by decide), if_neg hs]
theorem credit_val (F H Q n : Int) : rights_Credit.f F H Q n = some (mor F H Q n) := by unfold rights_Credit.f; rw [more_val]; rfl

theorem grant_val (F H Q n : Int) : rights_Grant.f F H Q n = some (mor F H Q n) := by unfold rights_Grant.f; rw [more_val]; rfl
theorem awake20 : Ev (fun k => lienlaw20_awake.f k) true := Ev.of (fun k => lienlaw20_awake.mono k) (k := 20) (by kernel_rfl)

def chg (F H Q N sign : Int) (p : Int × Int × Int × Int) : Int × Int × Int × Int × Int := if p.2.2.2 = 0 then (if sign = 0 then (p.1, p.2.1, p.2.2.1, 0, p.2.2.2) else if sign < 0 then (p.1, p.2.1, p.2.2.1, wrap64 (-N), p.2.2.2) else (p.1, p.2.1, p.2.2.1, N, p.2.2.2)) else (F, H, Q, 0, p.2.2.2)
theorem chg_ev {g : Nat → Option (Int × Int × Int × Int)} {p : Int × Int × Int × Int} (hg : Ev g p) (sign F H Q a N c d : Int) : Ev (fun k => (g k).bind fun bt => lienlaw20_change.j0 k bt.2.2.2 sign F H Q a N c d bt.1 bt.2.1 bt.2.2.1) (chg F H Q N sign p) := by
  refine Ev.bind hg ?_
  refine Ev.step (f := fun _ => some (chg F H Q N sign p)) (fun k => ?_) (Ev.now _)
  rw [lienlaw20_change.j0, chg]
  by_cases h1 : p.2.2.2 = 0
  · rw [if_pos h1, if_pos h1]
    by_cases h2 : sign = 0
    · rw [if_pos h2, if_pos h2]
    · rw [if_neg h2, if_neg h2]
      by_cases h3 : sign < 0
      · rw [if_pos h3, if_pos h3]
      · rw [if_neg h3, if_neg h3]
  · rw [if_neg h1, if_neg h1]
def Good (F H N sign : Int) (p : Int × Int × Int × Int) : Prop := p.2.2.2 = 0 → snd p.1 p.2.1 p.2.2.1 ∧ p.1 + p.2.1 = F + H + sign * N ∧ (sign = 0 ∨ 1 ≤ N ∧ N ≤ 1125899906842624)
def ChOK (F H Q : Int) (r : Int × Int × Int × Int × Int) : Prop := (r.2.2.2.2 = 0 → snd r.1 r.2.1 r.2.2.1 ∧ r.1 + r.2.1 = F + H + r.2.2.2.1) ∧ (r.2.2.2.2 ≠ 0 → r.1 = F ∧ r.2.1 = H ∧ r.2.2.1 = Q)
theorem chg_ok {F H Q N sign : Int} {p : Int × Int × Int × Int} (hg : Good F H N sign p) (hs : sign = 0 ∨ sign = 1 ∨ sign = -1) : ChOK F H Q (chg F H Q N sign p) := by
  unfold chg
  by_cases h1 : p.2.2.2 = 0
  · rw [if_pos h1]
    obtain ⟨g1, g2, g3⟩ := hg h1
    rcases hs with rfl | rfl | rfl
    · rw [if_pos rfl]
      exact ⟨fun _ => ⟨g1, by show p.1 + p.2.1 = F + H + 0; omega⟩, fun h => absurd h1 h⟩
    · rw [if_neg (by decide), if_neg (by decide)]
      exact ⟨fun _ => ⟨g1, by show p.1 + p.2.1 = F + H + N; omega⟩, fun h => absurd h1 h⟩
    · rw [if_neg (by decide), if_pos (by decide)]
      refine ⟨fun _ => ⟨g1, ?_⟩, fun h => absurd h1 h⟩
      show p.1 + p.2.1 = F + H + wrap64 (-N)
      rw [wi (-N) (by omega) (by omega)]; omega
  · rw [if_neg h1]
    exact ⟨fun h => absurd h h1, fun _ => ⟨rfl, rfl, rfl⟩⟩
theorem bad_good {F H N sign : Int} {a b c e : Int} (h : e ≠ 0) : Good F H N sign (a, b, c, e) := fun h0 => absurd h0 h
theorem mor_good {F H Q : Int} (n : Int) (hs : snd F H Q) : Good F H n 1 (mor F H Q n) := by
  rw [mor, if_pos hs]
  by_cases h1 : 1 ≤ n ∧ n ≤ 1125899906842624
  · rw [if_pos h1]
    by_cases h2 : F + H + n > 1125899906842624
    · rw [if_pos h2]; exact bad_good (by decide)
    · rw [if_neg h2]
      unfold snd at hs
      exact fun _ => ⟨by show snd (F + n) H Q; unfold snd; omega, by show F + n + H = F + H + 1 * n; omega, .inr h1⟩
  · rw [if_neg h1]; exact bad_good (by decide)
theorem les_good {F H Q : Int} (n : Int) (hs : snd F H Q) : Good F H n (-1) (les F H Q n) := by
  rw [les, if_pos hs]
  by_cases h1 : 1 ≤ n ∧ n ≤ 1125899906842624
  · rw [if_pos h1]
    by_cases h2 : F < n
    · rw [if_pos h2]; exact bad_good (by decide)
    · rw [if_neg h2]
      unfold snd at hs
      exact fun _ => ⟨by show snd (F - n) H Q; unfold snd; omega, by show F - n + H = F + H + -1 * n; omega, .inr h1⟩
  · rw [if_neg h1]; exact bad_good (by decide)
theorem quo_good {F H Q : Int} (n : Int) (hs : snd F H Q) : Good F H n 0 (quo F H Q n) := by
  rw [quo, if_pos hs]
  by_cases h1 : 0 ≤ n ∧ n ≤ 1125899906842624
  · rw [if_pos h1]
    unfold snd at hs
    exact fun _ => ⟨by show snd F H n; unfold snd; omega, by show F + H = F + H + 0 * n; omega, .inl rfl⟩
  · rw [if_neg h1]; exact bad_good (by decide)
theorem rsv_good {F H Q : Int} (N U : Int) (hs : snd F H Q) : Good F H N 0 (rsv F H Q N U) := by
  rw [rsv]
  by_cases h0 : snd F H Q ∧ hld N U
  · rw [if_pos h0]
    have hh := h0.2
    by_cases h1 : F < N
    · rw [if_pos h1]; exact bad_good (by decide)
    · rw [if_neg h1]
      by_cases h2 : H + N > Q
      · rw [if_pos h2]; exact bad_good (by decide)
      · rw [if_neg h2]
        unfold snd at hs
        unfold hld at hh
        exact fun _ => ⟨by show snd (F - N) (H + N) Q; unfold snd; omega, by show F - N + (H + N) = F + H + 0 * N; omega, .inl rfl⟩
  · rw [if_neg h0]; exact bad_good (by decide)
theorem cnl_good {F H Q : Int} (N U : Int) (hs : snd F H Q) : Good F H N 0 (cnl F H Q N U) := by
  rw [cnl]
  by_cases h0 : snd F H Q ∧ hld N U
  · rw [if_pos h0]
    have hh := h0.2
    by_cases h1 : H < N
    · rw [if_pos h1]; exact bad_good (by decide)
    · rw [if_neg h1]
      unfold snd at hs
      unfold hld at hh
      exact fun _ => ⟨by show snd (F + N) (H - N) Q; unfold snd; omega, by show F + N + (H - N) = F + H + 0 * N; omega, .inl rfl⟩
  · rw [if_neg h0]; exact bad_good (by decide)
theorem cnf_good {F H Q : Int} (N U t : Int) (hs : snd F H Q) : Good F H N (-1) (cnf F H Q N U t) := by
  rw [cnf]
  by_cases h0 : snd F H Q ∧ hld N U
  · rw [if_pos h0]
    have hh := h0.2
    by_cases h1 : 0 ≤ t ∧ t ≤ 1099511627776
    · rw [if_pos h1]
      by_cases h2 : U < t
      · rw [if_pos h2]; exact bad_good (by decide)
      · rw [if_neg h2]
        by_cases h3 : H < N
        · rw [if_pos h3]; exact bad_good (by decide)
        · rw [if_neg h3]
          unfold snd at hs
          unfold hld at hh
          exact fun _ => ⟨by show snd F (H - N) Q; unfold snd; omega, by show F + (H - N) = F + H + -1 * N; omega, .inr hh.1⟩
    · rw [if_neg h1]; exact bad_good (by decide)
  · rw [if_neg h0]; exact bad_good (by decide)
theorem xpr_good {F H Q : Int} (N U t : Int) (hs : snd F H Q) : Good F H N 0 (xpr F H Q N U t) := by
  rw [xpr]
  by_cases h0 : snd F H Q ∧ hld N U
  · rw [if_pos h0]
    by_cases h1 : 0 ≤ t ∧ t ≤ 1099511627776
    · rw [if_pos h1]
      by_cases h2 : U ≥ t
      · rw [if_pos h2]
        exact fun _ => ⟨hs, by show F + H = F + H + 0 * N; omega, .inl rfl⟩
      · rw [if_neg h2]; exact cnl_good N U hs
    · rw [if_neg h1]; exact bad_good (by decide)
  · rw [if_neg h0]; exact bad_good (by decide)
theorem ev_const {α : Type} {o : Option α} {r : α} (h : o = some r) : Ev (fun _ => o) r := ⟨0, fun _ _ => h⟩
theorem change_ev {F H Q : Int} (hs : snd F H Q) (a N c d : Int) : ∃ r, Ev (fun k => lienlaw20_change.f k F H Q a N c d) r ∧ ChOK F H Q r := by
  unfold lienlaw20_change.f
  by_cases h0 : Int.tmod a 9 = 0
  · simp only [if_pos h0]; exact ⟨_, chg_ev (ev_const (grant_val F H Q N)) 1 F H Q a N c d, chg_ok (mor_good N hs) (by decide)⟩
  simp only [if_neg h0]
  by_cases h1 : Int.tmod a 9 = 1
  · simp only [if_pos h1]; exact ⟨_, chg_ev (ev_const (credit_val F H Q N)) 1 F H Q a N c d, chg_ok (mor_good N hs) (by decide)⟩
  simp only [if_neg h1]
  by_cases h2 : Int.tmod a 9 = 2
  · simp only [if_pos h2]; exact ⟨_, chg_ev (ev_const (spend_val F H Q N)) (-1) F H Q a N c d, chg_ok (les_good N hs) (by decide)⟩
  simp only [if_neg h2]
  by_cases h3 : Int.tmod a 9 = 3
  · simp only [if_pos h3]; exact ⟨_, chg_ev (ev_const (debit_val F H Q N)) (-1) F H Q a N c d, chg_ok (les_good N hs) (by decide)⟩
  simp only [if_neg h3]
  by_cases h4 : Int.tmod a 9 = 4
  · simp only [if_pos h4]; exact ⟨_, chg_ev (ev_const (quota_val F H Q N)) 0 F H Q a N c d, chg_ok (quo_good N hs) (by decide)⟩
  simp only [if_neg h4]
  by_cases h5 : Int.tmod a 9 = 5
  · simp only [if_pos h5]; exact ⟨_, chg_ev (code_Reserve_ev F H Q N c) 0 F H Q a N c d, chg_ok (rsv_good N c hs) (by decide)⟩
  simp only [if_neg h5]
  by_cases h6 : Int.tmod a 9 = 6
  · simp only [if_pos h6]; exact ⟨_, chg_ev (code_Cancel_ev F H Q N c) 0 F H Q a N c d, chg_ok (cnl_good N c hs) (by decide)⟩
  simp only [if_neg h6]
  by_cases h7 : Int.tmod a 9 = 7
  · simp only [if_pos h7]; exact ⟨_, chg_ev (code_Confirm_ev F H Q N c d) (-1) F H Q a N c d, chg_ok (cnf_good N c d hs) (by decide)⟩
  simp only [if_neg h7]
  exact ⟨_, chg_ev (code_Expire_ev F H Q N c d) 0 F H Q a N c d, chg_ok (xpr_good N c d hs) (by decide)⟩
theorem kept_stop (xs : List S42) (sum i F H Q : Int) (hs : snd F H Q) : Ev (fun k => lienlaw20_RightsKept.j1 k xs sum i false F H Q) true := by
  refine Ev.step (f := fun k => (lienlaw20_awake.f k).bind fun t => some t) (fun k => ?_) (Ev.bind awake20 (Ev.now true))
  rw [lienlaw20_RightsKept.j1, if_neg (by decide), rcheck_val, if_pos hs, Option.bind_some, if_pos rfl]
theorem kept_l0 (xs : List S42) (d : Nat) : ∀ (i : Nat) (sum F H Q : Int), 60 - i = d → i ≤ 60 → snd F H Q → F + H = sum → Ev (fun k => lienlaw20_RightsKept.l0 k xs sum (i : Int) F H Q) true := by
  induction d with
  | zero =>
    intro i sum F H Q hd hi hs hsum
    refine Ev.step (f := fun k => lienlaw20_RightsKept.j1 k xs sum (i : Int) false F H Q) (fun k => ?_) (kept_stop xs sum i F H Q hs)
    rw [lienlaw20_RightsKept.l0, decide_eq_false (by omega)]
    split <;> rfl
  | succ d ih =>
    intro i sum F H Q hd hi hs hsum
    by_cases hlt : (i : Int) < (xs.length : Int)
    · refine Ev.step (f := fun k => lienlaw20_RightsKept.j1 k xs sum (i : Int) true F H Q) (fun k => ?_) ?_
      · rw [lienlaw20_RightsKept.l0, if_pos hlt, decide_eq_true (by omega)]
      · refine Ev.step (f := fun k => ((lienlaw20_change.f k F H Q ((rd_T42 xs (i : Int)).f0) ((rd_T42 xs (i : Int)).f1) ((rd_T42 xs (i : Int)).f2) ((rd_T42 xs (i : Int)).f3)).bind fun bt238 => (if bt238.2.2.2.2 = 0 then ((lienref20_Check.f bt238.1 bt238.2.1 bt238.2.2.1).bind fun t244 => (if t244 = 0 then (if (wrap64 (bt238.1 + bt238.2.1)) = (wrap64 (sum + bt238.2.2.2.1)) then (lienlaw20_RightsKept.l0 k xs (wrap64 (sum + bt238.2.2.2.1)) (wrap64 ((i : Int) + 1)) bt238.1 bt238.2.1 bt238.2.2.1) else (some false)) else (some false))) else ((lienref20_Check.f bt238.1 bt238.2.1 bt238.2.2.1).bind fun t245 => (if t245 = 0 then (if (wrap64 (bt238.1 + bt238.2.1)) = sum then (lienlaw20_RightsKept.l0 k xs sum (wrap64 ((i : Int) + 1)) bt238.1 bt238.2.1 bt238.2.2.1) else (some false)) else (some false)))))) (fun k => ?_) ?_
        · rw [lienlaw20_RightsKept.j1, if_pos rfl, if_pos (by omega), if_pos hlt]
        · obtain ⟨r, hr, hok1, hok2⟩ := change_ev hs (rd_T42 xs (i : Int)).f0 (rd_T42 xs (i : Int)).f1 (rd_T42 xs (i : Int)).f2 (rd_T42 xs (i : Int)).f3
          refine Ev.bind hr ?_
          have e1 : wrap64 ((i : Int) + 1) = ((i + 1 : Nat) : Int) := by rw [wi _ (by omega) (by omega)]; omega
          by_cases h0 : r.2.2.2.2 = 0
          · obtain ⟨g1, g2⟩ := hok1 h0
            have g1' := g1
            unfold snd at g1'
            have e2 : wrap64 (sum + r.2.2.2.1) = r.1 + r.2.1 := by rw [← hsum, ← g2, wi _ (by omega) (by omega)]
            have e3 : wrap64 (r.1 + r.2.1) = r.1 + r.2.1 := wi _ (by omega) (by omega)
            simp only [if_pos h0, rcheck_val, if_pos g1, Option.bind_some, if_true, e1, e2, e3]
            exact ih (i + 1) (r.1 + r.2.1) r.1 r.2.1 r.2.2.1 (by omega) (by omega) g1 rfl
          · obtain ⟨g1, g2, g3⟩ := hok2 h0
            have hs' := hs
            unfold snd at hs'
            have e3 : wrap64 (F + H) = sum := by rw [wi _ (by omega) (by omega), hsum]
            simp only [if_neg h0, g1, g2, g3, rcheck_val, if_pos hs, Option.bind_some, if_true, e1, e3]
            exact ih (i + 1) sum F H Q (by omega) (by omega) hs hsum
    · refine Ev.step (f := fun k => lienlaw20_RightsKept.j1 k xs sum (i : Int) false F H Q) (fun k => ?_) (kept_stop xs sum i F H Q hs)
      rw [lienlaw20_RightsKept.l0, if_neg hlt]
theorem RightsKept : lienlaw20_RightsKept.Pure := by
  intro xs _
  refine Ev.rounds ?_
  unfold lienlaw20_RightsKept.f
  rw [show rights_Fresh.f = some (0, 0, 1125899906842624) from rfl]
  simp only [Option.bind_some]
  exact kept_l0 xs 60 0 0 0 0 1125899906842624 (by omega) (by omega) (by decide) (by omega)

end Go.Proofs.Ytaodgncldakhgaa.Pure
