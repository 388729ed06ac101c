/- Written for the statement RightsHolds over the program's printed functions: numbers and lists alone. -/
import Derived.Test.YtaodgncldakhgaaPRightsHoldsx
set_option linter.unusedVariables false
set_option linter.unusedSimpArgs false
namespace Go.Proofs.Ytaodgncldakhgaa.Pure
open Go.RowKit Go.Proofs.Ytaodgncldakhgaa.PRightsHolds Go.Proofs.YtaodgncldakhgaaW Go.Proofs.YtaodgncldakhgaaW.PrintWords Go.Proofs.YtaodgncldakhgaaW.PrintLast Go.Proofs.YtaodgncldakhgaaW.PrintMore

theorem wrap64_id {x : Int} (h0 : -9223372036854775808 ≤ x) (h1 : x ≤ 9223372036854775807) : wrap64 x = x := by unfold wrap64; omega
theorem wu64 (n : Int) : IntKind.u64.wrap n = n % 18446744073709551616 := by simp [IntKind.wrap, IntKind.bits, IntKind.signed]
theorem wraps_u64 (n : Int) (h0 : 0 ≤ n) (h1 : n < 2 ^ 64) : IntKind.u64.wrap n = n := by rw [wu64]; omega
theorem u64_and127 {x : Int} (h0 : 0 ≤ x) (h1 : x < 18446744073709551616) : Go.bits .and .u64 x 127 = x % 128 := Go.bits_mask .u64 64 (by decide) wraps_u64 7 (by decide) x h0 h1
theorem u8_and127 {x : Int} (h0 : 0 ≤ x) (h1 : x < 256) : Go.bits .and .u8 x 127 = x % 128 := Go.bits_mask .u8 8 (by decide) Go.wraps_u8 7 (by decide) x h0 h1
theorem bits_comm_or (k : IntKind) (x y : Int) : Go.bits .or k x y = Go.bits .or k y x := by simp [Go.bits, BitVec.or_comm]
theorem u8_or_128 {x : Int} (h0 : 0 ≤ x) (h1 : x < 128) : Go.bits .or .u8 x 128 = x + 128 := by
  rw [bits_comm_or, Go.bits_join .u8 8 (by decide) Go.wraps_u8 7 128 x (by decide) (by decide) (by decide) h0 h1 (by omega)]; omega
theorem u64_join (i : Nat) {x y : Int} (hx0 : 0 ≤ x) (hx : x % 2 ^ i = 0) (hx1 : x < 18446744073709551616) (hy0 : 0 ≤ y) (hy : y < 2 ^ i) (hy1 : y < 18446744073709551616) : Go.bits .or .u64 x y = x + y :=
  Go.bits_join .u64 64 (by decide) wraps_u64 i x y hx0 hx hx1 hy0 hy hy1
theorem wf_u64 {x : Int} (h : (Lit.int .u64 x).wf = true) : 0 ≤ x ∧ x < 18446744073709551616 := by
  simp [Lit.wf, IntKind.min, IntKind.max, IntKind.bits, IntKind.signed] at h; omega
theorem wf_u8 {x : Int} (h : (Lit.int .u8 x).wf = true) : 0 ≤ x ∧ x < 256 := by
  simp [Lit.wf, IntKind.min, IntKind.max, IntKind.bits, IntKind.signed] at h; omega
theorem wf_i64 {x : Int} (h : (Lit.int .i64 x).wf = true) : -9223372036854775808 ≤ x ∧ x ≤ 9223372036854775807 := by
  simp [Lit.wf, IntKind.min, IntKind.max, IntKind.bits, IntKind.signed] at h; omega
def Byt (l : List Int) : Prop := ∀ x ∈ l, 0 ≤ x ∧ x < 256
theorem Byt.of_wf {l : List Int} (h : ∀ x ∈ l, (Lit.int .u8 x).wf = true) : Byt l := fun x hx => wf_u8 (h x hx)
theorem Byt.rd {l : List Int} (h : Byt l) (i : Int) : 0 ≤ rd l i ∧ rd l i < 256 := by
  unfold PrintWords.rd
  rw [List.getD_eq_getElem?_getD]
  cases e : l[i.toNat]? with
  | none => simp
  | some x => exact h x (List.mem_of_getElem? e)
theorem Byt.take {l : List Int} (h : Byt l) (n : Nat) : Byt (l.take n) := fun x hx => h x (List.mem_of_mem_take hx)
theorem Byt.drop {l : List Int} (h : Byt l) (n : Nat) : Byt (l.drop n) := fun x hx => h x (List.mem_of_mem_drop hx)
theorem rd_nat (l : List Int) (i : Nat) : rd l (i : Int) = l.getD i 0 := by unfold PrintWords.rd; simp
theorem rd_drop {l : List Int} {i : Nat} (h : i < l.length) : l.drop i = rd l (i : Int) :: l.drop (i + 1) := by
  rw [rd_nat, List.drop_eq_getElem_cons h]; simp [List.getD_eq_getElem?_getD, List.getElem?_eq_getElem h]

theorem within_val (a b c : Int) : rights_within.f a b c = some (decide (b ≤ a ∧ a ≤ c)) := by
  unfold rights_within.f
  by_cases h : a ≥ b
  · rw [if_pos h]
    exact congrArg some (decide_eq_decide.mpr (by omega))
  · rw [if_neg h, decide_eq_false (by omega)]
theorem wi (x : Int) (h0 : -9223372036854775808 ≤ x) (h1 : x ≤ 9223372036854775807) : wrap64 x = x := by unfold wrap64; omega
def snd (F H Q : Int) : Prop := (0 ≤ F ∧ F ≤ 1125899906842624) ∧ (0 ≤ H ∧ H ≤ 1125899906842624) ∧ (0 ≤ Q ∧ Q ≤ 1125899906842624) ∧ F + H ≤ 1125899906842624
def hld (N U : Int) : Prop := (1 ≤ N ∧ N ≤ 1125899906842624) ∧ (0 ≤ U ∧ U ≤ 1099511627776)
instance (F H Q : Int) : Decidable (snd F H Q) := by unfold snd; infer_instance
instance (N U : Int) : Decidable (hld N U) := by unfold hld; infer_instance
theorem sound_val (F H Q : Int) : rights_sound.f F H Q = some (decide (snd F H Q)) := by
  unfold rights_sound.f
  rw [within_val, within_val, within_val]
  by_cases h1 : 0 ≤ F ∧ F ≤ 1125899906842624
  · rw [decide_eq_true h1, Option.bind_some, if_pos rfl]
    by_cases h2 : 0 ≤ H ∧ H ≤ 1125899906842624
    · rw [decide_eq_true h2, Option.bind_some, if_pos rfl]
      by_cases h3 : 0 ≤ Q ∧ Q ≤ 1125899906842624
      · rw [decide_eq_true h3, Option.bind_some, if_pos rfl, wi _ (by omega) (by omega)]
        exact congrArg some (decide_eq_decide.mpr (by unfold snd; omega))
      · rw [decide_eq_false h3, Option.bind_some, if_neg (by decide), decide_eq_false (by unfold snd; omega)]
    · rw [decide_eq_false h2, Option.bind_some, if_neg (by decide), decide_eq_false (by unfold snd; omega)]
  · rw [decide_eq_false h1, Option.bind_some, if_neg (by decide), decide_eq_false (by unfold snd; omega)]

theorem holds_val (N U : Int) : rights_holds.f N U = some (decide (hld N U)) := by
  unfold rights_holds.f
  rw [within_val, within_val]
  by_cases h1 : 1 ≤ N ∧ N ≤ 1125899906842624
  · rw [decide_eq_true h1, Option.bind_some, if_pos rfl, Option.bind_some]
    exact congrArg some (decide_eq_decide.mpr (by unfold hld; omega))
  · rw [decide_eq_false h1, Option.bind_some, if_neg (by decide), decide_eq_false (by unfold hld; omega)]
def rsv (F H Q N U : Int) : Int × Int × Int × Int := if snd F H Q ∧ hld N U then (if F < N then (0, 0, 0, 201) else if H + N > Q then (0, 0, 0, 205) else (F - N, H + N, Q, 0)) else (0, 0, 0, 206)
def cnl (F H Q N U : Int) : Int × Int × Int × Int := if snd F H Q ∧ hld N U then (if H < N then (0, 0, 0, 201) else (F + N, H - N, Q, 0)) else (0, 0, 0, 206)
def cnf (F H Q N U t : Int) : Int × Int × Int × Int := if snd F H Q ∧ hld N U then (if 0 ≤ t ∧ t ≤ 1099511627776 then (if U < t then (0, 0, 0, 204) else if H < N then (0, 0, 0, 201) else (F, H - N, Q, 0)) else (0, 0, 0, 1)) else (0, 0, 0, 206)
def xpr (F H Q N U t : Int) : Int × Int × Int × Int := if snd F H Q ∧ hld N U then (if 0 ≤ t ∧ t ≤ 1099511627776 then (if U ≥ t then (F, H, Q, 0) else cnl F H Q N U) else (0, 0, 0, 1)) else (0, 0, 0, 206)
def mor (F H Q n : Int) : Int × Int × Int × Int := if snd F H Q then (if 1 ≤ n ∧ n ≤ 1125899906842624 then (if F + H + n > 1125899906842624 then (0, 0, 0, 200) else (F + n, H, Q, 0)) else (0, 0, 0, 1)) else (0, 0, 0, 206)
def les (F H Q n : Int) : Int × Int × Int × Int := if snd F H Q then (if 1 ≤ n ∧ n ≤ 1125899906842624 then (if F < n then (0, 0, 0, 201) else (F - n, H, Q, 0)) else (0, 0, 0, 1)) else (0, 0, 0, 206)
def quo (F H Q n : Int) : Int × Int × Int × Int := if snd F H Q then (if 0 ≤ n ∧ n ≤ 1125899906842624 then (F, H, n, 0) else (0, 0, 0, 1)) else (0, 0, 0, 206)

theorem code_Reserve_ev (F H Q N U : Int) : Ev (fun k => rights_Reserve.f k F H Q N U) (rsv F H Q N U) := ⟨1, fun k hk => by
  obtain ⟨k, rfl⟩ : ∃ m, k = m + 1 := ⟨k - 1, by omega⟩
  show rights_Reserve.f (k + 1) F H Q N U = _
  unfold rights_Reserve.f rsv
  rw [sound_val, holds_val]
  by_cases hs : snd F H Q
  · rw [decide_eq_true hs, Option.bind_some, if_pos rfl]
    by_cases hh : hld N U
    · rw [decide_eq_true hh, Option.bind_some, if_pos ⟨hs, hh⟩, rights_Reserve.j0, if_neg (by decide)]
      unfold snd at hs
      unfold hld at hh
      rw [wi (H + N) (by omega) (by omega), wi (F - N) (by omega) (by omega)]
      split
      · rfl
      · split <;> rfl
    · rw [decide_eq_false hh, Option.bind_some, if_neg (fun h => hh h.2), rights_Reserve.j0, if_pos (by decide)]
  · rw [decide_eq_false hs, Option.bind_some, if_neg (by decide), if_neg (fun h => hs h.1), rights_Reserve.j0, if_pos rfl]⟩

theorem code_Cancel_val (k : Nat) (F H Q N U : Int) : rights_Cancel.f (k + 1) F H Q N U = some (cnl F H Q N U) := by
  unfold rights_Cancel.f cnl
  rw [sound_val, holds_val]
  by_cases hs : snd F H Q
  · rw [decide_eq_true hs, Option.bind_some, if_pos rfl]
    by_cases hh : hld N U
    · rw [decide_eq_true hh, Option.bind_some, if_pos ⟨hs, hh⟩, rights_Cancel.j0, if_neg (by decide)]
      unfold snd at hs
      unfold hld at hh
      rw [wi (F + N) (by omega) (by omega), wi (H - N) (by omega) (by omega)]
      split <;> rfl
    · rw [decide_eq_false hh, Option.bind_some, if_neg (fun h => hh h.2), rights_Cancel.j0, if_pos (by decide)]
  · rw [decide_eq_false hs, Option.bind_some, if_neg (by decide), if_neg (fun h => hs h.1), rights_Cancel.j0, if_pos rfl]
theorem code_Cancel_ev (F H Q N U : Int) : Ev (fun k => rights_Cancel.f k F H Q N U) (cnl F H Q N U) := ⟨1, fun k hk => by
  obtain ⟨k, rfl⟩ : ∃ m, k = m + 1 := ⟨k - 1, by omega⟩
  exact code_Cancel_val k F H Q N U⟩

theorem code_Confirm_ev (F H Q N U t : Int) : Ev (fun k => rights_Confirm.f k F H Q N U t) (cnf F H Q N U t) := ⟨1, fun k hk => by
  obtain ⟨k, rfl⟩ : ∃ m, k = m + 1 := ⟨k - 1, by omega⟩
  show rights_Confirm.f (k + 1) F H Q N U t = _
  unfold rights_Confirm.f cnf
  rw [sound_val, holds_val]
  by_cases hs : snd F H Q
  · rw [decide_eq_true hs, Option.bind_some, if_pos rfl]
    by_cases hh : hld N U
    · rw [decide_eq_true hh, Option.bind_some, if_pos ⟨hs, hh⟩, rights_Confirm.j0, if_neg (by decide), within_val, Option.bind_some]
      unfold snd at hs
      unfold hld at hh
      rw [wi (H - N) (by omega) (by omega)]
      by_cases ht : 0 ≤ t ∧ t ≤ 1099511627776
      · rw [decide_eq_true ht, if_pos rfl, if_pos ht]
        split
        · rfl
        · split <;> rfl
      · rw [decide_eq_false ht, if_neg (by decide), if_neg ht]
    · rw [decide_eq_false hh, Option.bind_some, if_neg (fun h => hh h.2), rights_Confirm.j0, if_pos (by decide)]
  · rw [decide_eq_false hs, Option.bind_some, if_neg (by decide), if_neg (fun h => hs h.1), rights_Confirm.j0, if_pos rfl]⟩
theorem code_Expire_ev (F H Q N U t : Int) : Ev (fun k => rights_Expire.f k F H Q N U t) (xpr F H Q N U t) := ⟨2, fun k hk => by
  obtain ⟨k, rfl⟩ : ∃ m, k = m + 1 + 1 := ⟨k - 2, by omega⟩
  show rights_Expire.f (k + 1 + 1) F H Q N U t = _
  unfold rights_Expire.f xpr
  rw [sound_val, holds_val]
  by_cases hs : snd F H Q
  · rw [decide_eq_true hs, Option.bind_some, if_pos rfl]
    by_cases hh : hld N U
    · rw [decide_eq_true hh, Option.bind_some, if_pos ⟨hs, hh⟩, rights_Expire.j0, if_neg (by decide), within_val, Option.bind_some, code_Cancel_val, Option.bind_some]
      by_cases ht : 0 ≤ t ∧ t ≤ 1099511627776
      · rw [decide_eq_true ht, if_pos rfl, if_pos ht]
        split <;> rfl
      · rw [decide_eq_false ht, if_neg (by decide), if_neg ht]
    · rw [decide_eq_false hh, Option.bind_some, if_neg (fun h => hh h.2), rights_Expire.j0, if_pos (by decide)]
  · rw [decide_eq_false hs, Option.bind_some, if_neg (by decide), if_neg (fun h => hs h.1), rights_Expire.j0, if_pos rfl]⟩

theorem more_val (F H Q n : Int) : rights_more.f F H Q n = some (mor F H Q n) := by
  unfold rights_more.f mor
  rw [sound_val, within_val, Option.bind_some]
  by_cases hs : snd F H Q
  · rw [decide_eq_true hs, if_pos rfl, if_pos hs, Option.bind_some]
    by_cases hn : 1 ≤ n ∧ n ≤ 1125899906842624
    · rw [decide_eq_true hn, if_pos rfl, if_pos hn]
      unfold snd at hs
      rw [wi (1125899906842624 - F) (by omega) (by omega), wi (1125899906842624 - F - H) (by omega) (by omega), wi (F + n) (by omega) (by omega)]
      by_cases c : n > 1125899906842624 - F - H
      · rw [if_pos c, if_pos (by omega)]
      · rw [if_neg c, if_neg (by omega)]
    · rw [decide_eq_false hn, if_neg (by decide), if_neg hn]
  · rw [decide_eq_false hs, if_neg (by decide), if_neg hs]

theorem grant_val (F H Q n : Int) : rights_Grant.f F H Q n = some (mor F H Q n) := by unfold rights_Grant.f; rw [more_val]; rfl
theorem awake20 : Ev (fun k => lienlaw20_awake.f k) true := Ev.of (fun k => lienlaw20_awake.mono k) (k := 20) (by kernel_rfl)

theorem rwithin_val (a : Int) : lienref20_within.f a = some (decide (0 ≤ a ∧ a ≤ 1125899906842624)) := by
  unfold lienref20_within.f
  by_cases h : a ≥ 0
  · rw [if_pos h]
    exact congrArg some (decide_eq_decide.mpr (by omega))
  · rw [if_neg h, decide_eq_false (by omega)]
theorem rcheck_val (F H Q : Int) : lienref20_Check.f F H Q = some (if snd F H Q then 0 else 206) := by
  unfold lienref20_Check.f
  rw [rwithin_val, rwithin_val, rwithin_val]
  by_cases h1 : 0 ≤ F ∧ F ≤ 1125899906842624
  · rw [decide_eq_true h1, Option.bind_some, if_pos rfl]
    by_cases h2 : 0 ≤ H ∧ H ≤ 1125899906842624
    · rw [decide_eq_true h2, Option.bind_some, if_pos rfl]
      by_cases h3 : 0 ≤ Q ∧ Q ≤ 1125899906842624
      · rw [decide_eq_true h3, Option.bind_some, if_pos rfl, wi _ (by omega) (by omega)]
        by_cases h4 : F + H > 1125899906842624
        · rw [if_pos h4, if_neg (by unfold snd; omega)]
        · rw [if_neg h4, if_pos (by unfold snd; omega)]
      · rw [decide_eq_false h3, Option.bind_some, if_neg (by decide), if_neg (by unfold snd; omega)]
    · rw [decide_eq_false h2, Option.bind_some, if_neg (by decide), if_neg (by unfold snd; omega)]
  · rw [decide_eq_false h1, Option.bind_some, if_neg (by decide), if_neg (by unfold snd; omega)]

theorem rhold_val (N U : Int) : lienref20_CheckHold.f N U = some (if hld N U then 0 else 206) := by
  unfold lienref20_CheckHold.f
  by_cases h1 : N < 1
  · rw [if_pos h1, if_neg (by unfold hld; omega)]
  · rw [if_neg h1]
    by_cases h2 : N > 1125899906842624
    · rw [if_pos h2, if_neg (by unfold hld; omega)]
    · rw [if_neg h2]
      by_cases h3 : U < 0
      · rw [if_pos h3, if_neg (by unfold hld; omega)]
      · rw [if_neg h3]
        by_cases h4 : U > 1099511627776
        · rw [if_pos h4, if_neg (by unfold hld; omega)]
        · rw [if_neg h4, if_pos (by unfold hld; omega)]

theorem ref_Reserve_ev (F H Q N U : Int) : Ev (fun k => lienref20_Reserve.f k F H Q N U) (rsv F H Q N U) := ⟨1, fun k hk => by
  obtain ⟨k, rfl⟩ : ∃ m, k = m + 1 := ⟨k - 1, by omega⟩
  show lienref20_Reserve.f (k + 1) F H Q N U = _
  unfold lienref20_Reserve.f rsv
  rw [rcheck_val, rhold_val, Option.bind_some]
  by_cases hs : snd F H Q
  · rw [if_pos hs, if_pos rfl, Option.bind_some]
    by_cases hh : hld N U
    · rw [if_pos hh, if_pos ⟨hs, hh⟩, lienref20_Reserve.j0, if_neg (by decide)]
      unfold snd at hs
      unfold hld at hh
      rw [wi (H + N) (by omega) (by omega), wi (F - N) (by omega) (by omega)]
      split
      · rfl
      · split <;> rfl
    · rw [if_neg hh, if_neg (fun h => hh h.2), lienref20_Reserve.j0, if_pos (by decide)]
  · rw [if_neg hs, if_neg (by decide), if_neg (fun h => hs h.1), lienref20_Reserve.j0, if_pos rfl]⟩

theorem ref_Cancel_val (k : Nat) (F H Q N U : Int) : lienref20_Cancel.f (k + 1) F H Q N U = some (cnl F H Q N U) := by
  unfold lienref20_Cancel.f cnl
  rw [rcheck_val, rhold_val, Option.bind_some]
  by_cases hs : snd F H Q
  · rw [if_pos hs, if_pos rfl, Option.bind_some]
    by_cases hh : hld N U
    · rw [if_pos hh, if_pos ⟨hs, hh⟩, lienref20_Cancel.j0, if_neg (by decide)]
      unfold snd at hs
      unfold hld at hh
      rw [wi (F + N) (by omega) (by omega), wi (H - N) (by omega) (by omega)]
      split <;> rfl
    · rw [if_neg hh, if_neg (fun h => hh h.2), lienref20_Cancel.j0, if_pos (by decide)]
  · rw [if_neg hs, if_neg (by decide), if_neg (fun h => hs h.1), lienref20_Cancel.j0, if_pos rfl]
theorem ref_Cancel_ev (F H Q N U : Int) : Ev (fun k => lienref20_Cancel.f k F H Q N U) (cnl F H Q N U) := ⟨1, fun k hk => by
  obtain ⟨k, rfl⟩ : ∃ m, k = m + 1 := ⟨k - 1, by omega⟩
  exact ref_Cancel_val k F H Q N U⟩

theorem RightsHolds : lienlaw20_RightsHolds.Pure := by
  intro F H Q N U
  intros
  refine Ev.rounds ?_
  unfold lienlaw20_RightsHolds.f
  refine Ev.bind (code_Reserve_ev F H Q N U) ?_
  refine Ev.bind (ref_Reserve_ev F H Q N U) ?_
  refine Ev.bind (code_Cancel_ev F H Q N U) ?_
  refine Ev.bind (ref_Cancel_ev F H Q N U) ?_
  simp only [beq_self_eq_true, Bool.and_self, if_true]
  exact Ev.bind awake20 (Ev.now true)

end Go.Proofs.Ytaodgncldakhgaa.Pure
