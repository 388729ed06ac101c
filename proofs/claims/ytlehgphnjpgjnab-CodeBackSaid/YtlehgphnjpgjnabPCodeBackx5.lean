-- Written by wip/xprint of this repo (our own program) out of the translation; what is marked BY HAND is ours. Not trusted: Lean checks it.
import Derived.Test.YtlehgphnjpgjnabPCodeBackx0
import Derived.Test.YtlehgphnjpgjnabPCodeBackx1
import Derived.Test.YtlehgphnjpgjnabPCodeBackx2
import Derived.Test.YtlehgphnjpgjnabPCodeBackx3
import Derived.Test.YtlehgphnjpgjnabPCodeBackx4
namespace Go.Proofs.Ytlehgphnjpgjnab.PCodeBack
open Go.RowKit Go.Proofs.YtlehgphnjpgjnabW.PrintWords Go.Proofs.YtlehgphnjpgjnabW.PrintLast Go.Proofs.YtlehgphnjpgjnabW.PrintMore
attribute [local go_sem] max2_int min2_int max_two min_two max_three min_three max_four min_four   -- for this text's walks alone
set_option linter.unusedVariables false
set_option linter.unusedSimpArgs false

/-! ### lienlaw02_CodeBack: function 4 -/
def lienlaw02_CodeBack.j0 : Nat → List ByteArray → Bool → Option (Bool)
  | 0, _, _ => none
  | k + 1, x2, x102 => if x102 = true then (some false) else ((code_Key.f k x2).bind fun bt240 => ((code_Parts.f k bt240.1).bind fun bt242 => (if (x2.length : Int) > 8 then (if bt240.2 = 3 then ((lienlaw02_awake.f k).bind fun t246 => (some t246)) else (some false)) else (if bt240.2 = 0 then (if bt242.2 = 0 then ((lienlaw02_same.f k bt242.1 x2).bind fun t247 => (if t247 = true then ((lienlaw02_awake.f k).bind fun t248 => (some t248)) else (some false))) else (some false)) else (some false)))))
def lienlaw02_CodeBack.f (k : Nat) (a0 : Int) (a1 : ByteArray) (l2 : List ByteArray) (l3 : List Int) : Option (Bool) := (lienlaw02_short.f a1).bind fun t200 => ((lienlaw02_rows.f k l2).bind fun t201 => ((lienlaw02_cut.f l3).bind fun t204 => ((code_Num.f k a0).bind fun t207 => (if t207.length + t204.length < 140737488355328 then ((code_TakeNum.f k (t207 ++ t204)).bind fun bt213 => ((code_Text.f k t200).bind fun t218 => (if t218.length + t204.length < 140737488355328 then ((code_TakeText.f k (t218 ++ t204) (t200.size : Int)).bind fun bt224 => ((code_Fixed.f k a0 8).bind fun t229 => (if t229.length + t204.length < 140737488355328 then ((code_TakeFixed.f k (t229 ++ t204) 8).bind fun bt235 => (if bt213.2.2 = true then (if bt224.2.2 = true then (if bt235.2.2 = true then (if bt213.1 = a0 then (if bt224.1.toList = t200.toList then (if bt235.1 = a0 then (if (strOfNums bt213.2.1).toList = (strOfNums t204).toList then (if (strOfNums bt224.2.1).toList = (strOfNums t204).toList then (lienlaw02_CodeBack.j0 k t201 ((strOfNums bt235.2.1).toList != (strOfNums t204).toList)) else (lienlaw02_CodeBack.j0 k t201 true)) else (lienlaw02_CodeBack.j0 k t201 true)) else (lienlaw02_CodeBack.j0 k t201 true)) else (lienlaw02_CodeBack.j0 k t201 true)) else (lienlaw02_CodeBack.j0 k t201 true)) else (lienlaw02_CodeBack.j0 k t201 true)) else (lienlaw02_CodeBack.j0 k t201 true)) else (lienlaw02_CodeBack.j0 k t201 true))) else (none)))) else (none)))) else (none)))))
theorem lienlaw02_CodeBack.mono_l : ∀ k, (∀ y0 y1, LeO (lienlaw02_CodeBack.j0 k y0 y1) (lienlaw02_CodeBack.j0 (k + 1) y0 y1))
  | 0 => fun _ _ r h => by simp [lienlaw02_CodeBack.j0] at h
  | k + 1 => by
    have ih0 := lienlaw02_CodeBack.mono_l k
    · intro y0 y1
      unfold lienlaw02_CodeBack.j0
      repeat' first
      | (with_reducible exact ih0 _ _)
      | (with_reducible exact code_Fixed.mono _ _ _)
      | (with_reducible exact code_Key.mono _ _)
      | (with_reducible exact code_Num.mono _ _)
      | (with_reducible exact code_Parts.mono _ _)
      | (with_reducible exact code_TakeFixed.mono _ _ _)
      | (with_reducible exact code_TakeNum.mono _ _)
      | (with_reducible exact code_TakeText.mono _ _ _)
      | (with_reducible exact code_Text.mono _ _)
      | (with_reducible exact lienlaw02_awake.mono _)
      | (with_reducible exact lienlaw02_rows.mono _ _)
      | (with_reducible exact lienlaw02_same.mono _ _ _)
      | (with_reducible exact LeO.refl _)
      | (with_reducible exact LeO.none _)
      | (with_reducible refine LeO.ite ?_ ?_)
      | (with_reducible refine LeO.bind ?_ (fun _ => ?_))
      | exact ih0 _ _
      | exact code_Fixed.mono _ _ _
      | exact code_Key.mono _ _
      | exact code_Num.mono _ _
      | exact code_Parts.mono _ _
      | exact code_TakeFixed.mono _ _ _
      | exact code_TakeNum.mono _ _
      | exact code_TakeText.mono _ _ _
      | exact code_Text.mono _ _
      | exact lienlaw02_awake.mono _
      | exact lienlaw02_rows.mono _ _
      | exact lienlaw02_same.mono _ _ _
      | exact LeO.none _
      | refine LeO.ite ?_ ?_
      | refine LeO.bind ?_ (fun _ => ?_)
theorem lienlaw02_CodeBack.mono : ∀ a0 a1 a2 a3 k, LeO (lienlaw02_CodeBack.f k a0 a1 a2 a3) (lienlaw02_CodeBack.f (k + 1) a0 a1 a2 a3) := by
  intro a0 a1 a2 a3 k
  have ih0 := lienlaw02_CodeBack.mono_l k
  unfold lienlaw02_CodeBack.f
  repeat' first
      | (with_reducible exact ih0 _ _)
      | (with_reducible exact code_Fixed.mono _ _ _)
      | (with_reducible exact code_Key.mono _ _)
      | (with_reducible exact code_Num.mono _ _)
      | (with_reducible exact code_Parts.mono _ _)
      | (with_reducible exact code_TakeFixed.mono _ _ _)
      | (with_reducible exact code_TakeNum.mono _ _)
      | (with_reducible exact code_TakeText.mono _ _ _)
      | (with_reducible exact code_Text.mono _ _)
      | (with_reducible exact lienlaw02_awake.mono _)
      | (with_reducible exact lienlaw02_rows.mono _ _)
      | (with_reducible exact lienlaw02_same.mono _ _ _)
      | (with_reducible exact LeO.refl _)
      | (with_reducible exact LeO.none _)
      | (with_reducible refine LeO.ite ?_ ?_)
      | (with_reducible refine LeO.bind ?_ (fun _ => ?_))
      | exact ih0 _ _
      | exact code_Fixed.mono _ _ _
      | exact code_Key.mono _ _
      | exact code_Num.mono _ _
      | exact code_Parts.mono _ _
      | exact code_TakeFixed.mono _ _ _
      | exact code_TakeNum.mono _ _
      | exact code_TakeText.mono _ _ _
      | exact code_Text.mono _ _
      | exact lienlaw02_awake.mono _
      | exact lienlaw02_rows.mono _ _
      | exact lienlaw02_same.mono _ _ _
      | exact LeO.none _
      | refine LeO.ite ?_ ?_
      | refine LeO.bind ?_ (fun _ => ?_)
set_option maxHeartbeats 8000000 in
set_option maxRecDepth 100000 in
theorem lienlaw02_CodeBack.calls (k : Nat) (a0 : Int) (a1 : ByteArray) (A2 : Option Addr) (c2 : Nat) (l2 : List ByteArray) (A3 : Option Addr) (c3 : Nat) (l3 : List Int) (r : Bool) (w : World) (hr2 : Kd.C Kd.string w A2 l2.length l2) (hc2 : l2.length ≤ c2) (hr3 : Kd.C (Kd.int .u8) w A3 l3.length l3) (hc3 : l3.length ≤ c3) (h : lienlaw02_CodeBack.f k a0 a1 l2 l3 = some r) (hr_ : Aside0 (r = true)) :
    Calls Try.prog 4 #[.int .u64 a0, .string a1, .slice A2 l2.length c2, .slice A3 l3.length c3] w fun e w' => e = .returned (.bool r) ∧ Below w.heap.size w w' := by
  have HR2 := Aside0.mk hr2
  have HC2 := Aside0.mk hc2
  clear hr2 hc2
  have HR3 := Aside0.mk hr3
  have HC3 := Aside0.mk hc3
  clear hr3 hc3
  have HB := Aside0.mk (Below.refl w.heap.size w)
  have H : ((lienlaw02_short.f a1).bind fun t200 => ((lienlaw02_rows.f k l2).bind fun t201 => ((lienlaw02_cut.f l3).bind fun t204 => ((code_Num.f k a0).bind fun t207 => (if t207.length + t204.length < 140737488355328 then ((code_TakeNum.f k (t207 ++ t204)).bind fun bt213 => ((code_Text.f k t200).bind fun t218 => (if t218.length + t204.length < 140737488355328 then ((code_TakeText.f k (t218 ++ t204) (t200.size : Int)).bind fun bt224 => ((code_Fixed.f k a0 8).bind fun t229 => (if t229.length + t204.length < 140737488355328 then ((code_TakeFixed.f k (t229 ++ t204) 8).bind fun bt235 => (if bt213.2.2 = true then (if bt224.2.2 = true then (if bt235.2.2 = true then (if bt213.1 = a0 then (if bt224.1.toList = t200.toList then (if bt235.1 = a0 then (if (strOfNums bt213.2.1).toList = (strOfNums t204).toList then (if (strOfNums bt224.2.1).toList = (strOfNums t204).toList then (lienlaw02_CodeBack.j0 k t201 ((strOfNums bt235.2.1).toList != (strOfNums t204).toList)) else (lienlaw02_CodeBack.j0 k t201 true)) else (lienlaw02_CodeBack.j0 k t201 true)) else (lienlaw02_CodeBack.j0 k t201 true)) else (lienlaw02_CodeBack.j0 k t201 true)) else (lienlaw02_CodeBack.j0 k t201 true)) else (lienlaw02_CodeBack.j0 k t201 true)) else (lienlaw02_CodeBack.j0 k t201 true)) else (lienlaw02_CodeBack.j0 k t201 true))) else (none)))) else (none)))) else (none)))))) = some r := h
  clear h
  replace H := Option.bind_eq_some_iff.mp H
  obtain ⟨t200, A50, H⟩ := H
  replace H : ((lienlaw02_rows.f k l2).bind fun t201 => ((lienlaw02_cut.f l3).bind fun t204 => ((code_Num.f k a0).bind fun t207 => (if t207.length + t204.length < 140737488355328 then ((code_TakeNum.f k (t207 ++ t204)).bind fun bt213 => ((code_Text.f k t200).bind fun t218 => (if t218.length + t204.length < 140737488355328 then ((code_TakeText.f k (t218 ++ t204) (t200.size : Int)).bind fun bt224 => ((code_Fixed.f k a0 8).bind fun t229 => (if t229.length + t204.length < 140737488355328 then ((code_TakeFixed.f k (t229 ++ t204) 8).bind fun bt235 => (if bt213.2.2 = true then (if bt224.2.2 = true then (if bt235.2.2 = true then (if bt213.1 = a0 then (if bt224.1.toList = t200.toList then (if bt235.1 = a0 then (if (strOfNums bt213.2.1).toList = (strOfNums t204).toList then (if (strOfNums bt224.2.1).toList = (strOfNums t204).toList then (lienlaw02_CodeBack.j0 k t201 ((strOfNums bt235.2.1).toList != (strOfNums t204).toList)) else (lienlaw02_CodeBack.j0 k t201 true)) else (lienlaw02_CodeBack.j0 k t201 true)) else (lienlaw02_CodeBack.j0 k t201 true)) else (lienlaw02_CodeBack.j0 k t201 true)) else (lienlaw02_CodeBack.j0 k t201 true)) else (lienlaw02_CodeBack.j0 k t201 true)) else (lienlaw02_CodeBack.j0 k t201 true)) else (lienlaw02_CodeBack.j0 k t201 true))) else (none)))) else (none)))) else (none))))) = some r := H
  have A5 := Aside0.mk A50
  clear A50
  replace H := Option.bind_eq_some_iff.mp H
  obtain ⟨t201, A60, H⟩ := H
  replace H : ((lienlaw02_cut.f l3).bind fun t204 => ((code_Num.f k a0).bind fun t207 => (if t207.length + t204.length < 140737488355328 then ((code_TakeNum.f k (t207 ++ t204)).bind fun bt213 => ((code_Text.f k t200).bind fun t218 => (if t218.length + t204.length < 140737488355328 then ((code_TakeText.f k (t218 ++ t204) (t200.size : Int)).bind fun bt224 => ((code_Fixed.f k a0 8).bind fun t229 => (if t229.length + t204.length < 140737488355328 then ((code_TakeFixed.f k (t229 ++ t204) 8).bind fun bt235 => (if bt213.2.2 = true then (if bt224.2.2 = true then (if bt235.2.2 = true then (if bt213.1 = a0 then (if bt224.1.toList = t200.toList then (if bt235.1 = a0 then (if (strOfNums bt213.2.1).toList = (strOfNums t204).toList then (if (strOfNums bt224.2.1).toList = (strOfNums t204).toList then (lienlaw02_CodeBack.j0 k t201 ((strOfNums bt235.2.1).toList != (strOfNums t204).toList)) else (lienlaw02_CodeBack.j0 k t201 true)) else (lienlaw02_CodeBack.j0 k t201 true)) else (lienlaw02_CodeBack.j0 k t201 true)) else (lienlaw02_CodeBack.j0 k t201 true)) else (lienlaw02_CodeBack.j0 k t201 true)) else (lienlaw02_CodeBack.j0 k t201 true)) else (lienlaw02_CodeBack.j0 k t201 true)) else (lienlaw02_CodeBack.j0 k t201 true))) else (none)))) else (none)))) else (none)))) = some r := H
  have A6 := Aside0.mk A60
  clear A60
  replace H := Option.bind_eq_some_iff.mp H
  obtain ⟨t204, A70, H⟩ := H
  replace H : ((code_Num.f k a0).bind fun t207 => (if t207.length + t204.length < 140737488355328 then ((code_TakeNum.f k (t207 ++ t204)).bind fun bt213 => ((code_Text.f k t200).bind fun t218 => (if t218.length + t204.length < 140737488355328 then ((code_TakeText.f k (t218 ++ t204) (t200.size : Int)).bind fun bt224 => ((code_Fixed.f k a0 8).bind fun t229 => (if t229.length + t204.length < 140737488355328 then ((code_TakeFixed.f k (t229 ++ t204) 8).bind fun bt235 => (if bt213.2.2 = true then (if bt224.2.2 = true then (if bt235.2.2 = true then (if bt213.1 = a0 then (if bt224.1.toList = t200.toList then (if bt235.1 = a0 then (if (strOfNums bt213.2.1).toList = (strOfNums t204).toList then (if (strOfNums bt224.2.1).toList = (strOfNums t204).toList then (lienlaw02_CodeBack.j0 k t201 ((strOfNums bt235.2.1).toList != (strOfNums t204).toList)) else (lienlaw02_CodeBack.j0 k t201 true)) else (lienlaw02_CodeBack.j0 k t201 true)) else (lienlaw02_CodeBack.j0 k t201 true)) else (lienlaw02_CodeBack.j0 k t201 true)) else (lienlaw02_CodeBack.j0 k t201 true)) else (lienlaw02_CodeBack.j0 k t201 true)) else (lienlaw02_CodeBack.j0 k t201 true)) else (lienlaw02_CodeBack.j0 k t201 true))) else (none)))) else (none)))) else (none))) = some r := H
  have A7 := Aside0.mk A70
  clear A70
  replace H := Option.bind_eq_some_iff.mp H
  obtain ⟨t207, A80, H⟩ := H
  replace H : (if t207.length + t204.length < 140737488355328 then ((code_TakeNum.f k (t207 ++ t204)).bind fun bt213 => ((code_Text.f k t200).bind fun t218 => (if t218.length + t204.length < 140737488355328 then ((code_TakeText.f k (t218 ++ t204) (t200.size : Int)).bind fun bt224 => ((code_Fixed.f k a0 8).bind fun t229 => (if t229.length + t204.length < 140737488355328 then ((code_TakeFixed.f k (t229 ++ t204) 8).bind fun bt235 => (if bt213.2.2 = true then (if bt224.2.2 = true then (if bt235.2.2 = true then (if bt213.1 = a0 then (if bt224.1.toList = t200.toList then (if bt235.1 = a0 then (if (strOfNums bt213.2.1).toList = (strOfNums t204).toList then (if (strOfNums bt224.2.1).toList = (strOfNums t204).toList then (lienlaw02_CodeBack.j0 k t201 ((strOfNums bt235.2.1).toList != (strOfNums t204).toList)) else (lienlaw02_CodeBack.j0 k t201 true)) else (lienlaw02_CodeBack.j0 k t201 true)) else (lienlaw02_CodeBack.j0 k t201 true)) else (lienlaw02_CodeBack.j0 k t201 true)) else (lienlaw02_CodeBack.j0 k t201 true)) else (lienlaw02_CodeBack.j0 k t201 true)) else (lienlaw02_CodeBack.j0 k t201 true)) else (lienlaw02_CodeBack.j0 k t201 true))) else (none)))) else (none)))) else (none)) = some r := H
  have A8 := Aside0.mk A80
  clear A80
  by_cases c9 : t207.length + t204.length < 140737488355328
  · rw [if_pos c9] at H
    have LMc9 := Aside0.mk c9
    clear c9
    obtain ⟨y210, hy210⟩ : ∃ y_ : List Int, y_ = (t207 ++ t204) := ⟨_, rfl⟩
    replace H : ((code_TakeNum.f k y210).bind fun bt213 => ((code_Text.f k t200).bind fun t218 => (if t218.length + t204.length < 140737488355328 then ((code_TakeText.f k (t218 ++ t204) (t200.size : Int)).bind fun bt224 => ((code_Fixed.f k a0 8).bind fun t229 => (if t229.length + t204.length < 140737488355328 then ((code_TakeFixed.f k (t229 ++ t204) 8).bind fun bt235 => (if bt213.2.2 = true then (if bt224.2.2 = true then (if bt235.2.2 = true then (if bt213.1 = a0 then (if bt224.1.toList = t200.toList then (if bt235.1 = a0 then (if (strOfNums bt213.2.1).toList = (strOfNums t204).toList then (if (strOfNums bt224.2.1).toList = (strOfNums t204).toList then (lienlaw02_CodeBack.j0 k t201 ((strOfNums bt235.2.1).toList != (strOfNums t204).toList)) else (lienlaw02_CodeBack.j0 k t201 true)) else (lienlaw02_CodeBack.j0 k t201 true)) else (lienlaw02_CodeBack.j0 k t201 true)) else (lienlaw02_CodeBack.j0 k t201 true)) else (lienlaw02_CodeBack.j0 k t201 true)) else (lienlaw02_CodeBack.j0 k t201 true)) else (lienlaw02_CodeBack.j0 k t201 true)) else (lienlaw02_CodeBack.j0 k t201 true))) else (none)))) else (none)))) = some r := by first | (rw [hy210]; with_reducible exact H) | (have H2_ := (Option.bind_some _ _).symm.trans H; rw [hy210]; with_reducible exact H2_) | (have H2_ := (Option.bind_some _ _).symm.trans H; with_reducible exact H2_) | with_reducible exact H | (rw [hy210]; exact H) | exact H
    have Ny210 := Aside0.mk hy210
    clear hy210
    replace H := Option.bind_eq_some_iff.mp H
    obtain ⟨⟨t213, t214, t215⟩, A100, H⟩ := H
    replace H : ((code_Text.f k t200).bind fun t218 => (if t218.length + t204.length < 140737488355328 then ((code_TakeText.f k (t218 ++ t204) (t200.size : Int)).bind fun bt224 => ((code_Fixed.f k a0 8).bind fun t229 => (if t229.length + t204.length < 140737488355328 then ((code_TakeFixed.f k (t229 ++ t204) 8).bind fun bt235 => (if t215 = true then (if bt224.2.2 = true then (if bt235.2.2 = true then (if t213 = a0 then (if bt224.1.toList = t200.toList then (if bt235.1 = a0 then (if (strOfNums t214).toList = (strOfNums t204).toList then (if (strOfNums bt224.2.1).toList = (strOfNums t204).toList then (lienlaw02_CodeBack.j0 k t201 ((strOfNums bt235.2.1).toList != (strOfNums t204).toList)) else (lienlaw02_CodeBack.j0 k t201 true)) else (lienlaw02_CodeBack.j0 k t201 true)) else (lienlaw02_CodeBack.j0 k t201 true)) else (lienlaw02_CodeBack.j0 k t201 true)) else (lienlaw02_CodeBack.j0 k t201 true)) else (lienlaw02_CodeBack.j0 k t201 true)) else (lienlaw02_CodeBack.j0 k t201 true)) else (lienlaw02_CodeBack.j0 k t201 true))) else (none)))) else (none))) = some r := H
    have A10 := Aside0.mk A100
    clear A100
    replace H := Option.bind_eq_some_iff.mp H
    obtain ⟨t218, A110, H⟩ := H
    replace H : (if t218.length + t204.length < 140737488355328 then ((code_TakeText.f k (t218 ++ t204) (t200.size : Int)).bind fun bt224 => ((code_Fixed.f k a0 8).bind fun t229 => (if t229.length + t204.length < 140737488355328 then ((code_TakeFixed.f k (t229 ++ t204) 8).bind fun bt235 => (if t215 = true then (if bt224.2.2 = true then (if bt235.2.2 = true then (if t213 = a0 then (if bt224.1.toList = t200.toList then (if bt235.1 = a0 then (if (strOfNums t214).toList = (strOfNums t204).toList then (if (strOfNums bt224.2.1).toList = (strOfNums t204).toList then (lienlaw02_CodeBack.j0 k t201 ((strOfNums bt235.2.1).toList != (strOfNums t204).toList)) else (lienlaw02_CodeBack.j0 k t201 true)) else (lienlaw02_CodeBack.j0 k t201 true)) else (lienlaw02_CodeBack.j0 k t201 true)) else (lienlaw02_CodeBack.j0 k t201 true)) else (lienlaw02_CodeBack.j0 k t201 true)) else (lienlaw02_CodeBack.j0 k t201 true)) else (lienlaw02_CodeBack.j0 k t201 true)) else (lienlaw02_CodeBack.j0 k t201 true))) else (none)))) else (none)) = some r := H
    have A11 := Aside0.mk A110
    clear A110
    by_cases c12 : t218.length + t204.length < 140737488355328
    · rw [if_pos c12] at H
      have LMc12 := Aside0.mk c12
      clear c12
      obtain ⟨y221, hy221⟩ : ∃ y_ : List Int, y_ = (t218 ++ t204) := ⟨_, rfl⟩
      replace H : ((code_TakeText.f k y221 (t200.size : Int)).bind fun bt224 => ((code_Fixed.f k a0 8).bind fun t229 => (if t229.length + t204.length < 140737488355328 then ((code_TakeFixed.f k (t229 ++ t204) 8).bind fun bt235 => (if t215 = true then (if bt224.2.2 = true then (if bt235.2.2 = true then (if t213 = a0 then (if bt224.1.toList = t200.toList then (if bt235.1 = a0 then (if (strOfNums t214).toList = (strOfNums t204).toList then (if (strOfNums bt224.2.1).toList = (strOfNums t204).toList then (lienlaw02_CodeBack.j0 k t201 ((strOfNums bt235.2.1).toList != (strOfNums t204).toList)) else (lienlaw02_CodeBack.j0 k t201 true)) else (lienlaw02_CodeBack.j0 k t201 true)) else (lienlaw02_CodeBack.j0 k t201 true)) else (lienlaw02_CodeBack.j0 k t201 true)) else (lienlaw02_CodeBack.j0 k t201 true)) else (lienlaw02_CodeBack.j0 k t201 true)) else (lienlaw02_CodeBack.j0 k t201 true)) else (lienlaw02_CodeBack.j0 k t201 true))) else (none)))) = some r := by first | (rw [hy221]; with_reducible exact H) | (have H2_ := (Option.bind_some _ _).symm.trans H; rw [hy221]; with_reducible exact H2_) | (have H2_ := (Option.bind_some _ _).symm.trans H; with_reducible exact H2_) | with_reducible exact H | (rw [hy221]; exact H) | exact H
      have Ny221 := Aside0.mk hy221
      clear hy221
      replace H := Option.bind_eq_some_iff.mp H
      obtain ⟨⟨t224, t225, t226⟩, A130, H⟩ := H
      replace H : ((code_Fixed.f k a0 8).bind fun t229 => (if t229.length + t204.length < 140737488355328 then ((code_TakeFixed.f k (t229 ++ t204) 8).bind fun bt235 => (if t215 = true then (if t226 = true then (if bt235.2.2 = true then (if t213 = a0 then (if t224.toList = t200.toList then (if bt235.1 = a0 then (if (strOfNums t214).toList = (strOfNums t204).toList then (if (strOfNums t225).toList = (strOfNums t204).toList then (lienlaw02_CodeBack.j0 k t201 ((strOfNums bt235.2.1).toList != (strOfNums t204).toList)) else (lienlaw02_CodeBack.j0 k t201 true)) else (lienlaw02_CodeBack.j0 k t201 true)) else (lienlaw02_CodeBack.j0 k t201 true)) else (lienlaw02_CodeBack.j0 k t201 true)) else (lienlaw02_CodeBack.j0 k t201 true)) else (lienlaw02_CodeBack.j0 k t201 true)) else (lienlaw02_CodeBack.j0 k t201 true)) else (lienlaw02_CodeBack.j0 k t201 true))) else (none))) = some r := H
      have A13 := Aside0.mk A130
      clear A130
      replace H := Option.bind_eq_some_iff.mp H
      obtain ⟨t229, A140, H⟩ := H
      replace H : (if t229.length + t204.length < 140737488355328 then ((code_TakeFixed.f k (t229 ++ t204) 8).bind fun bt235 => (if t215 = true then (if t226 = true then (if bt235.2.2 = true then (if t213 = a0 then (if t224.toList = t200.toList then (if bt235.1 = a0 then (if (strOfNums t214).toList = (strOfNums t204).toList then (if (strOfNums t225).toList = (strOfNums t204).toList then (lienlaw02_CodeBack.j0 k t201 ((strOfNums bt235.2.1).toList != (strOfNums t204).toList)) else (lienlaw02_CodeBack.j0 k t201 true)) else (lienlaw02_CodeBack.j0 k t201 true)) else (lienlaw02_CodeBack.j0 k t201 true)) else (lienlaw02_CodeBack.j0 k t201 true)) else (lienlaw02_CodeBack.j0 k t201 true)) else (lienlaw02_CodeBack.j0 k t201 true)) else (lienlaw02_CodeBack.j0 k t201 true)) else (lienlaw02_CodeBack.j0 k t201 true))) else (none)) = some r := H
      have A14 := Aside0.mk A140
      clear A140
      by_cases c15 : t229.length + t204.length < 140737488355328
      · rw [if_pos c15] at H
        have LMc15 := Aside0.mk c15
        clear c15
        obtain ⟨y232, hy232⟩ : ∃ y_ : List Int, y_ = (t229 ++ t204) := ⟨_, rfl⟩
        replace H : ((code_TakeFixed.f k y232 8).bind fun bt235 => (if t215 = true then (if t226 = true then (if bt235.2.2 = true then (if t213 = a0 then (if t224.toList = t200.toList then (if bt235.1 = a0 then (if (strOfNums t214).toList = (strOfNums t204).toList then (if (strOfNums t225).toList = (strOfNums t204).toList then (lienlaw02_CodeBack.j0 k t201 ((strOfNums bt235.2.1).toList != (strOfNums t204).toList)) else (lienlaw02_CodeBack.j0 k t201 true)) else (lienlaw02_CodeBack.j0 k t201 true)) else (lienlaw02_CodeBack.j0 k t201 true)) else (lienlaw02_CodeBack.j0 k t201 true)) else (lienlaw02_CodeBack.j0 k t201 true)) else (lienlaw02_CodeBack.j0 k t201 true)) else (lienlaw02_CodeBack.j0 k t201 true)) else (lienlaw02_CodeBack.j0 k t201 true))) = some r := by first | (rw [hy232]; with_reducible exact H) | (have H2_ := (Option.bind_some _ _).symm.trans H; rw [hy232]; with_reducible exact H2_) | (have H2_ := (Option.bind_some _ _).symm.trans H; with_reducible exact H2_) | with_reducible exact H | (rw [hy232]; exact H) | exact H
        have Ny232 := Aside0.mk hy232
        clear hy232
        replace H := Option.bind_eq_some_iff.mp H
        obtain ⟨⟨t235, t236, t237⟩, A160, H⟩ := H
        replace H : (if t215 = true then (if t226 = true then (if t237 = true then (if t213 = a0 then (if t224.toList = t200.toList then (if t235 = a0 then (if (strOfNums t214).toList = (strOfNums t204).toList then (if (strOfNums t225).toList = (strOfNums t204).toList then (lienlaw02_CodeBack.j0 k t201 ((strOfNums t236).toList != (strOfNums t204).toList)) else (lienlaw02_CodeBack.j0 k t201 true)) else (lienlaw02_CodeBack.j0 k t201 true)) else (lienlaw02_CodeBack.j0 k t201 true)) else (lienlaw02_CodeBack.j0 k t201 true)) else (lienlaw02_CodeBack.j0 k t201 true)) else (lienlaw02_CodeBack.j0 k t201 true)) else (lienlaw02_CodeBack.j0 k t201 true)) else (lienlaw02_CodeBack.j0 k t201 true)) = some r := H
        have A16 := Aside0.mk A160
        clear A160
        have HC17 := Aside0.mk H
        clear H
        go_enter Try.func4, Try.ntmps4
        go_upto_region 5 with (first | ((with_reducible refine gate_callee (f := 6) rfl ?_); refine goesL_ (some 23) rfl rfl Try.func6 (by kernel_rfl) rfl #[.string a1] rfl (by (try simp only [List.map_toArray, List.map_cons, List.map_nil]); first | done | rfl | (simp only [List.length_drop, List.length_take]; rfl)) ?_; (with_reducible refine (lienlaw02_short.calls a1 t200 _ A5.out).mono ?_); rintro e w' ⟨rfl, ⟨nd, rfl⟩⟩; refine ⟨_, rfl, ?_⟩) | ((with_reducible refine gate_callee (f := 14) rfl ?_); refine goesL_ (some 25) rfl rfl Try.func14 (by kernel_rfl) rfl #[.slice A2 l2.length c2] rfl (by (try simp only [List.map_toArray, List.map_cons, List.map_nil]); first | done | rfl | (simp only [List.length_drop, List.length_take]; rfl)) ?_; (with_reducible refine (lienlaw02_rows.calls k _ _ l2 t201 _ ?side1 ?side2 A6.out).mono ?_); (case side1 => repeat (first | exact HR2.out | (with_reducible refine Kd.C_alloc ?_ _) | (with_reducible refine Kd.C_drewN ?_ _) | (with_reducible refine Kd.C_drew ?_))); (case side2 => exact HC2.out); rintro e w18 ⟨v202, rfl, ho0, hb⟩; refine ⟨_, rfl, ?_⟩; have n0_ := Aside0.mk (Kd.R_lower ho0 (below_size (by repeat (first | (with_reducible first | exact HB.out | apply below_alloc | apply pw_below_drewN | apply below_drew1) | exact HB.out)))); have n1_ := Aside0.mk (below_step (by repeat (first | (with_reducible first | exact HB.out | apply below_alloc | apply pw_below_drewN | apply below_drew1) | exact HB.out)) hb); clear HB; have HO203 := n0_; have HB := n1_; clear n0_ n1_; (try clear hb); (try clear hb2); (try clear hk); (try clear hi); (try clear ho0)) | ((with_reducible refine gate_callee (f := 5) rfl ?_); refine goesL_ (some 27) rfl rfl Try.func5 (by kernel_rfl) rfl #[.slice A3 l3.length c3] rfl (by (try simp only [List.map_toArray, List.map_cons, List.map_nil]); first | done | rfl | (simp only [List.length_drop, List.length_take]; rfl)) ?_; (with_reducible refine (lienlaw02_cut.calls (fun k_ => k_ < w.heap.size) _ _ l3 t204 _ ?side1 A7.out).mono ?_); (case side1 => exact Kd.V_mk HC3.out (Kd.F_below (Kd.C_F (Kd.heap_int .u8) HR3.out) (by repeat (first | (with_reducible first | exact HB.out | apply below_alloc | apply pw_below_drewN | apply below_drew1) | exact HB.out)))); rintro e w19 ⟨v205, rfl, ho0, hb⟩; refine ⟨_, rfl, ?_⟩; have n0_ := Aside0.mk (Kd.R_below (by (with_reducible repeat (first | apply Kd.R_alloc | apply Kd.R_drewN | apply Kd.R_drew)); exact HO203.out) hb); have n1_ := Aside0.mk (Kd.V_lower (Kd.V_mono (ok' := fun k_ => some k_ ≠ (v202 : Value).ownBlock) ho0 (fun k_ hk_ => Or.elim hk_ (fun hs_ => fun e_ => Nat.not_le.2 hs_ (Kd.R_base HO203.out k_ e_.symm)) (fun hn_ => (Kd.fresh' (Kd.R_lt (by (with_reducible repeat (first | apply Kd.R_alloc | apply Kd.R_drewN | apply Kd.R_drew)); exact HO203.out)) k_ hn_)))) (below_size (by repeat (first | (with_reducible first | exact HB.out | apply below_alloc | apply pw_below_drewN | apply below_drew1) | exact HB.out)))); have n2_ := Aside0.mk (below_step (by repeat (first | (with_reducible first | exact HB.out | apply below_alloc | apply pw_below_drewN | apply below_drew1) | exact HB.out)) hb); clear HO203; clear HB; have HO203 := n0_; have HO206 := n1_; have HB := n2_; clear n0_ n1_ n2_; (try clear hb); (try clear hb2); (try clear hk); (try clear hi); (try clear ho0)) | ((with_reducible refine gate_callee (f := 9) rfl ?_); refine goesL_ (some 30) rfl rfl Try.func9 (by kernel_rfl) rfl #[.int .u64 a0] rfl (by (try simp only [List.map_toArray, List.map_cons, List.map_nil]); first | done | rfl | (simp only [List.length_drop, List.length_take]; rfl)) ?_; (with_reducible refine (code_Num.calls k a0 t207 _ A8.out).mono ?_); rintro e w20 ⟨v208, rfl, ho0, hb⟩; refine ⟨_, rfl, ?_⟩; have n0_ := Aside0.mk (Kd.R_below (by (with_reducible repeat (first | apply Kd.R_alloc | apply Kd.R_drewN | apply Kd.R_drew)); exact HO203.out) hb); have n1_ := Aside0.mk (Kd.V_elder' (by (with_reducible repeat (first | apply Kd.V_alloc | apply Kd.V_drewN | apply Kd.V_drew)); exact HO206.out) (Kd.R_base ho0) hb); have n2_ := Aside0.mk (Kd.R_lower ho0 (below_size (by repeat (first | (with_reducible first | exact HB.out | apply below_alloc | apply pw_below_drewN | apply below_drew1) | exact HB.out)))); have n3_ := Aside0.mk (below_step (by repeat (first | (with_reducible first | exact HB.out | apply below_alloc | apply pw_below_drewN | apply below_drew1) | exact HB.out)) hb); clear HO203; clear HO206; clear HB; have HO203 := n0_; have HO206 := n1_; have HO209 := n2_; have HB := n3_; clear n0_ n1_ n2_ n3_; (try clear hb); (try clear hb2); (try clear hk); (try clear hi); (try clear ho0); obtain ⟨Ao22, co22, eo22⟩ := Kd.V_slice HO206.out; subst eo22) | ((with_reducible refine gate_builtin (b := .append) (xs := #[.tmp 30, .tmp 31]) rfl ?_); at_builtin; refine Kd.R_append_rows (Kd.int .u8) (w0 := w) w.heap.size rfl (.tmp 30) (.tmp 31) 22 5 (.int .u8 0) 1 rfl Try.underlying22 info5 rfl (by decide) (by omega) v208 t207 t204 _ _ _ (fun _ => True) (fun _ => False) rfl rfl ?aO ?aR (fun _ _ h => h) (fun _ h => h.elim) ?aF ?aB ?aS ?aL ?_; (case aR => repeat (first | exact (Kd.V_reads' HO206.out).2.2 | (with_reducible refine Kd.C_alloc ?_ _) | (with_reducible refine Kd.C_drewN ?_ _) | (with_reducible refine Kd.C_drew ?_))); (case aB => exact (by repeat (first | (with_reducible first | exact HB.out | apply below_alloc | apply pw_below_drewN | apply below_drew1) | exact HB.out))); (case aF => exact (fun _ _ => trivial)); (case aO => exact (by (with_reducible repeat (first | apply Kd.R_alloc | apply Kd.R_drewN | apply Kd.R_drew)); exact HO209.out)); (case aS => exact (below_size (by repeat (first | (with_reducible first | exact HB.out | apply below_alloc | apply pw_below_drewN | apply below_drew1) | exact HB.out)))); (case aL => have := LMc9.out; omega); intro v211 w21 ho hb hg hat; rw [← Ny210.out] at ho; have n0_ := Aside0.mk (Kd.R_over' (by (with_reducible repeat (first | apply Kd.R_alloc | apply Kd.R_drewN | apply Kd.R_drew)); exact HO203.out) (Kd.R_typed (by (with_reducible repeat (first | apply Kd.R_alloc | apply Kd.R_drewN | apply Kd.R_drew)); exact HO209.out)) (by decide) hg); have n1_ := Aside0.mk (Kd.V_afterv (ok := (fun k_ => some k_ ≠ (v202 : Value).ownBlock)) (by (with_reducible repeat (first | apply Kd.V_alloc | apply Kd.V_drewN | apply Kd.V_drew)); exact HO206.out) hg hat); have n2_ := Aside0.mk (hb); have n3_ := Aside0.mk (ho); clear HO203; clear HO206; clear HB; clear HO209; have HO203 := n0_; have HO206 := n1_; have HB := n2_; have HO212 := n3_; clear n0_ n1_ n2_ n3_; clear ho hb hg hat; obtain ⟨Ao23, co23, eo23⟩ := Kd.R_slice HO212.out; subst eo23) | ((with_reducible refine gate_callee (f := 8) rfl ?_); refine goesL_ (some 33) rfl rfl Try.func8 (by kernel_rfl) rfl #[.slice Ao23 y210.length co23] rfl (by (try simp only [List.map_toArray, List.map_cons, List.map_nil]); first | done | rfl | (simp only [List.length_drop, List.length_take]; rfl)) ?_; (with_reducible refine (code_TakeNum.calls k _ _ y210 t213 t214 t215 _ ?side1 ?side2 A10.out).mono ?_); (case side1 => repeat (first | exact (Kd.R_reads' HO212.out).2.2 | (with_reducible refine Kd.C_alloc ?_ _) | (with_reducible refine Kd.C_drewN ?_ _) | (with_reducible refine Kd.C_drew ?_))); (case side2 => exact (Kd.R_reads' HO212.out).2.1); rintro e w24 ⟨v216, rfl, ho0, hb⟩; refine ⟨_, rfl, ?_⟩; have n0_ := Aside0.mk (Kd.R_below (by (with_reducible repeat (first | apply Kd.R_alloc | apply Kd.R_drewN | apply Kd.R_drew)); exact HO203.out) hb); have n1_ := Aside0.mk (Kd.V_elder' (by (with_reducible repeat (first | apply Kd.V_alloc | apply Kd.V_drewN | apply Kd.V_drew)); exact HO206.out) (Kd.R_base ho0) hb); have n2_ := Aside0.mk (Kd.R_elder' (by (with_reducible repeat (first | apply Kd.R_alloc | apply Kd.R_drewN | apply Kd.R_drew)); exact HO212.out) (Kd.R_base ho0) hb); have n3_ := Aside0.mk (Kd.R_lower (Kd.R_new' ho0 (Kd.R_lt (by (with_reducible repeat (first | apply Kd.R_alloc | apply Kd.R_drewN | apply Kd.R_drew)); exact HO212.out))) (below_size (by repeat (first | (with_reducible first | exact HB.out | apply below_alloc | apply pw_below_drewN | apply below_drew1) | exact HB.out)))); have n4_ := Aside0.mk (below_step (by repeat (first | (with_reducible first | exact HB.out | apply below_alloc | apply pw_below_drewN | apply below_drew1) | exact HB.out)) hb); clear HO203; clear HO206; clear HO212; clear HB; have HO203 := n0_; have HO206 := n1_; have HO212 := n2_; have HO217 := n3_; have HB := n4_; clear n0_ n1_ n2_ n3_ n4_; (try clear hb); (try clear hb2); (try clear hk); (try clear hi); (try clear ho0)) | ((with_reducible refine gate_callee (f := 11) rfl ?_); refine goesL_ (some 39) rfl rfl Try.func11 (by kernel_rfl) rfl #[.string t200] rfl (by (try simp only [List.map_toArray, List.map_cons, List.map_nil]); first | done | rfl | (simp only [List.length_drop, List.length_take]; rfl)) ?_; (with_reducible refine (code_Text.calls k t200 t218 _ A11.out).mono ?_); rintro e w25 ⟨v219, rfl, ho0, hb⟩; refine ⟨_, rfl, ?_⟩; have n0_ := Aside0.mk (Kd.R_below (by (with_reducible repeat (first | apply Kd.R_alloc | apply Kd.R_drewN | apply Kd.R_drew)); exact HO203.out) hb); have n1_ := Aside0.mk (Kd.V_elder' (by (with_reducible repeat (first | apply Kd.V_alloc | apply Kd.V_drewN | apply Kd.V_drew)); exact HO206.out) (Kd.R_base ho0) hb); have n2_ := Aside0.mk (Kd.R_elder' (by (with_reducible repeat (first | apply Kd.R_alloc | apply Kd.R_drewN | apply Kd.R_drew)); exact HO212.out) (Kd.R_base ho0) hb); have n3_ := Aside0.mk (Kd.R_elder' (by (with_reducible repeat (first | apply Kd.R_alloc | apply Kd.R_drewN | apply Kd.R_drew)); exact HO217.out) (Kd.R_base ho0) hb); have n4_ := Aside0.mk (Kd.R_lower (Kd.R_new' (Kd.R_new' ho0 (Kd.R_lt (by (with_reducible repeat (first | apply Kd.R_alloc | apply Kd.R_drewN | apply Kd.R_drew)); exact HO212.out))) (Kd.R_lt (by (with_reducible repeat (first | apply Kd.R_alloc | apply Kd.R_drewN | apply Kd.R_drew)); exact HO217.out))) (below_size (by repeat (first | (with_reducible first | exact HB.out | apply below_alloc | apply pw_below_drewN | apply below_drew1) | exact HB.out)))); have n5_ := Aside0.mk (below_step (by repeat (first | (with_reducible first | exact HB.out | apply below_alloc | apply pw_below_drewN | apply below_drew1) | exact HB.out)) hb); clear HO203; clear HO206; clear HO212; clear HO217; clear HB; have HO203 := n0_; have HO206 := n1_; have HO212 := n2_; have HO217 := n3_; have HO220 := n4_; have HB := n5_; clear n0_ n1_ n2_ n3_ n4_ n5_; (try clear hb); (try clear hb2); (try clear hk); (try clear hi); (try clear ho0)) | ((with_reducible refine gate_builtin (b := .append) (xs := #[.tmp 39, .tmp 40]) rfl ?_); at_builtin; refine Kd.R_append_rows (Kd.int .u8) (w0 := w) w.heap.size rfl (.tmp 39) (.tmp 40) 22 5 (.int .u8 0) 1 rfl Try.underlying22 info5 rfl (by decide) (by omega) v219 t218 t204 _ _ _ (fun k_ => some k_ ≠ (.slice Ao23 y210.length co23 : Value).ownBlock ∧ some k_ ≠ (v216 : Value).ownBlock) (fun _ => False) rfl rfl ?aO ?aR (fun _ _ h => h) (fun _ h => h.elim) ?aF ?aB ?aS ?aL ?_; (case aR => repeat (first | exact (Kd.V_reads' HO206.out).2.2 | (with_reducible refine Kd.C_alloc ?_ _) | (with_reducible refine Kd.C_drewN ?_ _) | (with_reducible refine Kd.C_drew ?_))); (case aB => exact (by repeat (first | (with_reducible first | exact HB.out | apply below_alloc | apply pw_below_drewN | apply below_drew1) | exact HB.out))); (case aF => exact (fun k_ hk => ⟨Kd.fresh' (Kd.R_lt (by (with_reducible repeat (first | apply Kd.R_alloc | apply Kd.R_drewN | apply Kd.R_drew)); exact HO212.out)) k_ hk, Kd.fresh' (Kd.R_lt (by (with_reducible repeat (first | apply Kd.R_alloc | apply Kd.R_drewN | apply Kd.R_drew)); exact HO217.out)) k_ hk⟩)); (case aO => exact (by (with_reducible repeat (first | apply Kd.R_alloc | apply Kd.R_drewN | apply Kd.R_drew)); exact Kd.R_mono HO220.out (fun _ hk => ⟨hk.1.2, hk.2⟩))); (case aS => exact (below_size (by repeat (first | (with_reducible first | exact HB.out | apply below_alloc | apply pw_below_drewN | apply below_drew1) | exact HB.out)))); (case aL => have := LMc12.out; omega); intro v222 w26 ho hb hg hat; rw [← Ny221.out] at ho; have n0_ := Aside0.mk (Kd.R_over' (by (with_reducible repeat (first | apply Kd.R_alloc | apply Kd.R_drewN | apply Kd.R_drew)); exact HO203.out) (Kd.R_typed (by (with_reducible repeat (first | apply Kd.R_alloc | apply Kd.R_drewN | apply Kd.R_drew)); exact HO220.out)) (by decide) hg); have n1_ := Aside0.mk (Kd.V_afterv (ok := (fun k_ => some k_ ≠ (v202 : Value).ownBlock ∧ some k_ ≠ (.slice Ao23 y210.length co23 : Value).ownBlock ∧ some k_ ≠ (v216 : Value).ownBlock)) (by (with_reducible repeat (first | apply Kd.V_alloc | apply Kd.V_drewN | apply Kd.V_drew)); exact Kd.V_mono HO206.out (fun _ hk => ⟨⟨hk.1.1.1, ⟨hk.1.1.2, hk.1.2⟩⟩, hk.2⟩)) hg hat); have n2_ := Aside0.mk (Kd.R_after (ok := (fun k_ => some k_ ≠ (v216 : Value).ownBlock)) (by (with_reducible repeat (first | apply Kd.R_alloc | apply Kd.R_drewN | apply Kd.R_drew)); exact Kd.R_mono HO212.out (fun _ hk => ⟨hk.1.2, hk.2⟩)) hg hat); have n3_ := Aside0.mk (Kd.R_after (ok := (fun k_ => some k_ ≠ (.slice Ao23 y210.length co23 : Value).ownBlock)) (by (with_reducible repeat (first | apply Kd.R_alloc | apply Kd.R_drewN | apply Kd.R_drew)); exact Kd.R_mono HO217.out (fun _ hk => ⟨hk.1.2, hk.2⟩)) hg hat); have n4_ := Aside0.mk (hb); have n5_ := Aside0.mk (ho); clear HO203; clear HO206; clear HO212; clear HO217; clear HB; clear HO220; have HO203 := n0_; have HO206 := n1_; have HO212 := n2_; have HO217 := n3_; have HB := n4_; have HO223 := n5_; clear n0_ n1_ n2_ n3_ n4_ n5_; clear ho hb hg hat; obtain ⟨Ao27, co27, eo27⟩ := Kd.R_slice HO223.out; subst eo27) | ((with_reducible refine gate_callee (f := 10) rfl ?_); refine goesL_ (some 44) rfl rfl Try.func10 (by kernel_rfl) rfl #[.slice Ao27 y221.length co27, .int .i64 (t200.size : Int)] rfl (by (try simp only [List.map_toArray, List.map_cons, List.map_nil]); first | done | rfl | (simp only [List.length_drop, List.length_take]; rfl)) ?_; (with_reducible refine (code_TakeText.calls k _ _ y221 (t200.size : Int) t224 t225 t226 _ ?side1 ?side2 A13.out).mono ?_); (case side1 => repeat (first | exact (Kd.R_reads' HO223.out).2.2 | (with_reducible refine Kd.C_alloc ?_ _) | (with_reducible refine Kd.C_drewN ?_ _) | (with_reducible refine Kd.C_drew ?_))); (case side2 => exact (Kd.R_reads' HO223.out).2.1); rintro e w28 ⟨v227, rfl, ho0, hb⟩; refine ⟨_, rfl, ?_⟩; have n0_ := Aside0.mk (Kd.R_below (by (with_reducible repeat (first | apply Kd.R_alloc | apply Kd.R_drewN | apply Kd.R_drew)); exact HO203.out) hb); have n1_ := Aside0.mk (Kd.V_elder' (by (with_reducible repeat (first | apply Kd.V_alloc | apply Kd.V_drewN | apply Kd.V_drew)); exact HO206.out) (Kd.R_base ho0) hb); have n2_ := Aside0.mk (Kd.R_elder' (by (with_reducible repeat (first | apply Kd.R_alloc | apply Kd.R_drewN | apply Kd.R_drew)); exact HO212.out) (Kd.R_base ho0) hb); have n3_ := Aside0.mk (Kd.R_elder' (by (with_reducible repeat (first | apply Kd.R_alloc | apply Kd.R_drewN | apply Kd.R_drew)); exact HO217.out) (Kd.R_base ho0) hb); have n4_ := Aside0.mk (Kd.R_elder' (by (with_reducible repeat (first | apply Kd.R_alloc | apply Kd.R_drewN | apply Kd.R_drew)); exact HO223.out) (Kd.R_base ho0) hb); have n5_ := Aside0.mk (Kd.R_lower (Kd.R_new' (Kd.R_new' (Kd.R_new' ho0 (Kd.R_lt (by (with_reducible repeat (first | apply Kd.R_alloc | apply Kd.R_drewN | apply Kd.R_drew)); exact HO212.out))) (Kd.R_lt (by (with_reducible repeat (first | apply Kd.R_alloc | apply Kd.R_drewN | apply Kd.R_drew)); exact HO217.out))) (Kd.R_lt (by (with_reducible repeat (first | apply Kd.R_alloc | apply Kd.R_drewN | apply Kd.R_drew)); exact HO223.out))) (below_size (by repeat (first | (with_reducible first | exact HB.out | apply below_alloc | apply pw_below_drewN | apply below_drew1) | exact HB.out)))); have n6_ := Aside0.mk (below_step (by repeat (first | (with_reducible first | exact HB.out | apply below_alloc | apply pw_below_drewN | apply below_drew1) | exact HB.out)) hb); clear HO203; clear HO206; clear HO212; clear HO217; clear HO223; clear HB; have HO203 := n0_; have HO206 := n1_; have HO212 := n2_; have HO217 := n3_; have HO223 := n4_; have HO228 := n5_; have HB := n6_; clear n0_ n1_ n2_ n3_ n4_ n5_ n6_; (try clear hb); (try clear hb2); (try clear hk); (try clear hi); (try clear ho0)) | ((with_reducible refine gate_callee (f := 16) rfl ?_); refine goesL_ (some 50) rfl rfl Try.func16 (by kernel_rfl) rfl #[.int .u64 a0, .int .i64 8] rfl (by (try simp only [List.map_toArray, List.map_cons, List.map_nil]); first | done | rfl | (simp only [List.length_drop, List.length_take]; rfl)) ?_; (with_reducible refine (code_Fixed.calls k a0 8 t229 _ A14.out).mono ?_); rintro e w29 ⟨v230, rfl, ho0, hb⟩; refine ⟨_, rfl, ?_⟩; have n0_ := Aside0.mk (Kd.R_below (by (with_reducible repeat (first | apply Kd.R_alloc | apply Kd.R_drewN | apply Kd.R_drew)); exact HO203.out) hb); have n1_ := Aside0.mk (Kd.V_elder' (by (with_reducible repeat (first | apply Kd.V_alloc | apply Kd.V_drewN | apply Kd.V_drew)); exact HO206.out) (Kd.R_base ho0) hb); have n2_ := Aside0.mk (Kd.R_elder' (by (with_reducible repeat (first | apply Kd.R_alloc | apply Kd.R_drewN | apply Kd.R_drew)); exact HO212.out) (Kd.R_base ho0) hb); have n3_ := Aside0.mk (Kd.R_elder' (by (with_reducible repeat (first | apply Kd.R_alloc | apply Kd.R_drewN | apply Kd.R_drew)); exact HO217.out) (Kd.R_base ho0) hb); have n4_ := Aside0.mk (Kd.R_elder' (by (with_reducible repeat (first | apply Kd.R_alloc | apply Kd.R_drewN | apply Kd.R_drew)); exact HO223.out) (Kd.R_base ho0) hb); have n5_ := Aside0.mk (Kd.R_elder' (by (with_reducible repeat (first | apply Kd.R_alloc | apply Kd.R_drewN | apply Kd.R_drew)); exact HO228.out) (Kd.R_base ho0) hb); have n6_ := Aside0.mk (Kd.R_lower (Kd.R_new' (Kd.R_new' (Kd.R_new' (Kd.R_new' ho0 (Kd.R_lt (by (with_reducible repeat (first | apply Kd.R_alloc | apply Kd.R_drewN | apply Kd.R_drew)); exact HO212.out))) (Kd.R_lt (by (with_reducible repeat (first | apply Kd.R_alloc | apply Kd.R_drewN | apply Kd.R_drew)); exact HO217.out))) (Kd.R_lt (by (with_reducible repeat (first | apply Kd.R_alloc | apply Kd.R_drewN | apply Kd.R_drew)); exact HO223.out))) (Kd.R_lt (by (with_reducible repeat (first | apply Kd.R_alloc | apply Kd.R_drewN | apply Kd.R_drew)); exact HO228.out))) (below_size (by repeat (first | (with_reducible first | exact HB.out | apply below_alloc | apply pw_below_drewN | apply below_drew1) | exact HB.out)))); have n7_ := Aside0.mk (below_step (by repeat (first | (with_reducible first | exact HB.out | apply below_alloc | apply pw_below_drewN | apply below_drew1) | exact HB.out)) hb); clear HO203; clear HO206; clear HO212; clear HO217; clear HO223; clear HO228; clear HB; have HO203 := n0_; have HO206 := n1_; have HO212 := n2_; have HO217 := n3_; have HO223 := n4_; have HO228 := n5_; have HO231 := n6_; have HB := n7_; clear n0_ n1_ n2_ n3_ n4_ n5_ n6_ n7_; (try clear hb); (try clear hb2); (try clear hk); (try clear hi); (try clear ho0)) | ((with_reducible refine gate_builtin (b := .append) (xs := #[.tmp 50, .tmp 51]) rfl ?_); at_builtin; refine Kd.R_append_rows (Kd.int .u8) (w0 := w) w.heap.size rfl (.tmp 50) (.tmp 51) 22 5 (.int .u8 0) 1 rfl Try.underlying22 info5 rfl (by decide) (by omega) v230 t229 t204 _ _ _ (fun k_ => some k_ ≠ (.slice Ao23 y210.length co23 : Value).ownBlock ∧ some k_ ≠ (v216 : Value).ownBlock ∧ some k_ ≠ (.slice Ao27 y221.length co27 : Value).ownBlock ∧ some k_ ≠ (v227 : Value).ownBlock) (fun _ => False) rfl rfl ?aO ?aR (fun _ _ h => h) (fun _ h => h.elim) ?aF ?aB ?aS ?aL ?_; (case aR => repeat (first | exact (Kd.V_reads' HO206.out).2.2 | (with_reducible refine Kd.C_alloc ?_ _) | (with_reducible refine Kd.C_drewN ?_ _) | (with_reducible refine Kd.C_drew ?_))); (case aB => exact (by repeat (first | (with_reducible first | exact HB.out | apply below_alloc | apply pw_below_drewN | apply below_drew1) | exact HB.out))); (case aF => exact (fun k_ hk => ⟨Kd.fresh' (Kd.R_lt (by (with_reducible repeat (first | apply Kd.R_alloc | apply Kd.R_drewN | apply Kd.R_drew)); exact HO212.out)) k_ hk, Kd.fresh' (Kd.R_lt (by (with_reducible repeat (first | apply Kd.R_alloc | apply Kd.R_drewN | apply Kd.R_drew)); exact HO217.out)) k_ hk, Kd.fresh' (Kd.R_lt (by (with_reducible repeat (first | apply Kd.R_alloc | apply Kd.R_drewN | apply Kd.R_drew)); exact HO223.out)) k_ hk, Kd.fresh' (Kd.R_lt (by (with_reducible repeat (first | apply Kd.R_alloc | apply Kd.R_drewN | apply Kd.R_drew)); exact HO228.out)) k_ hk⟩)); (case aO => exact (by (with_reducible repeat (first | apply Kd.R_alloc | apply Kd.R_drewN | apply Kd.R_drew)); exact Kd.R_mono HO231.out (fun _ hk => ⟨hk.1.1.1.2, ⟨hk.1.1.2, ⟨hk.1.2, hk.2⟩⟩⟩))); (case aS => exact (below_size (by repeat (first | (with_reducible first | exact HB.out | apply below_alloc | apply pw_below_drewN | apply below_drew1) | exact HB.out)))); (case aL => have := LMc15.out; omega); intro v233 w30 ho hb hg hat; rw [← Ny232.out] at ho; have n0_ := Aside0.mk (Kd.R_over' (by (with_reducible repeat (first | apply Kd.R_alloc | apply Kd.R_drewN | apply Kd.R_drew)); exact HO203.out) (Kd.R_typed (by (with_reducible repeat (first | apply Kd.R_alloc | apply Kd.R_drewN | apply Kd.R_drew)); exact HO231.out)) (by decide) hg); have n1_ := Aside0.mk (Kd.V_afterv (ok := (fun k_ => some k_ ≠ (v202 : Value).ownBlock ∧ some k_ ≠ (.slice Ao23 y210.length co23 : Value).ownBlock ∧ some k_ ≠ (v216 : Value).ownBlock ∧ some k_ ≠ (.slice Ao27 y221.length co27 : Value).ownBlock ∧ some k_ ≠ (v227 : Value).ownBlock)) (by (with_reducible repeat (first | apply Kd.V_alloc | apply Kd.V_drewN | apply Kd.V_drew)); exact Kd.V_mono HO206.out (fun _ hk => ⟨⟨hk.1.1.1.1, ⟨hk.1.1.1.2.1, ⟨hk.1.1.1.2.2, ⟨hk.1.1.2, hk.1.2⟩⟩⟩⟩, hk.2⟩)) hg hat); have n2_ := Aside0.mk (Kd.R_after (ok := (fun k_ => some k_ ≠ (v216 : Value).ownBlock ∧ some k_ ≠ (.slice Ao27 y221.length co27 : Value).ownBlock ∧ some k_ ≠ (v227 : Value).ownBlock)) (by (with_reducible repeat (first | apply Kd.R_alloc | apply Kd.R_drewN | apply Kd.R_drew)); exact Kd.R_mono HO212.out (fun _ hk => ⟨⟨hk.1.1.1, ⟨hk.1.1.2, hk.1.2⟩⟩, hk.2⟩)) hg hat); have n3_ := Aside0.mk (Kd.R_after (ok := (fun k_ => some k_ ≠ (.slice Ao23 y210.length co23 : Value).ownBlock ∧ some k_ ≠ (.slice Ao27 y221.length co27 : Value).ownBlock ∧ some k_ ≠ (v227 : Value).ownBlock)) (by (with_reducible repeat (first | apply Kd.R_alloc | apply Kd.R_drewN | apply Kd.R_drew)); exact Kd.R_mono HO217.out (fun _ hk => ⟨⟨hk.1.1.1, ⟨hk.1.1.2, hk.1.2⟩⟩, hk.2⟩)) hg hat); have n4_ := Aside0.mk (Kd.R_after (ok := (fun k_ => some k_ ≠ (.slice Ao23 y210.length co23 : Value).ownBlock ∧ some k_ ≠ (v216 : Value).ownBlock ∧ some k_ ≠ (v227 : Value).ownBlock)) (by (with_reducible repeat (first | apply Kd.R_alloc | apply Kd.R_drewN | apply Kd.R_drew)); exact Kd.R_mono HO223.out (fun _ hk => ⟨⟨hk.1.1.1, ⟨hk.1.1.2, hk.1.2⟩⟩, hk.2⟩)) hg hat); have n5_ := Aside0.mk (Kd.R_after (ok := (fun k_ => some k_ ≠ (.slice Ao23 y210.length co23 : Value).ownBlock ∧ some k_ ≠ (v216 : Value).ownBlock ∧ some k_ ≠ (.slice Ao27 y221.length co27 : Value).ownBlock)) (by (with_reducible repeat (first | apply Kd.R_alloc | apply Kd.R_drewN | apply Kd.R_drew)); exact Kd.R_mono HO228.out (fun _ hk => ⟨⟨hk.1.1.1.2, ⟨hk.1.1.2, hk.1.2⟩⟩, hk.2⟩)) hg hat); have n6_ := Aside0.mk (hb); have n7_ := Aside0.mk (ho); clear HO203; clear HO206; clear HO212; clear HO217; clear HO223; clear HO228; clear HB; clear HO231; have HO203 := n0_; have HO206 := n1_; have HO212 := n2_; have HO217 := n3_; have HO223 := n4_; have HO228 := n5_; have HB := n6_; have HO234 := n7_; clear n0_ n1_ n2_ n3_ n4_ n5_ n6_ n7_; clear ho hb hg hat; obtain ⟨Ao31, co31, eo31⟩ := Kd.R_slice HO234.out; subst eo31) | ((with_reducible refine gate_callee (f := 15) rfl ?_); refine goesL_ (some 53) rfl rfl Try.func15 (by kernel_rfl) rfl #[.slice Ao31 y232.length co31, .int .i64 8] rfl (by (try simp only [List.map_toArray, List.map_cons, List.map_nil]); first | done | rfl | (simp only [List.length_drop, List.length_take]; rfl)) ?_; (with_reducible refine (code_TakeFixed.calls k _ _ y232 8 t235 t236 t237 _ ?side1 ?side2 A16.out).mono ?_); (case side1 => repeat (first | exact (Kd.R_reads' HO234.out).2.2 | (with_reducible refine Kd.C_alloc ?_ _) | (with_reducible refine Kd.C_drewN ?_ _) | (with_reducible refine Kd.C_drew ?_))); (case side2 => exact (Kd.R_reads' HO234.out).2.1); rintro e w32 ⟨v238, rfl, ho0, hb⟩; refine ⟨_, rfl, ?_⟩; have n0_ := Aside0.mk (Kd.R_below (by (with_reducible repeat (first | apply Kd.R_alloc | apply Kd.R_drewN | apply Kd.R_drew)); exact HO203.out) hb); have n1_ := Aside0.mk (Kd.V_elder' (by (with_reducible repeat (first | apply Kd.V_alloc | apply Kd.V_drewN | apply Kd.V_drew)); exact HO206.out) (Kd.R_base ho0) hb); have n2_ := Aside0.mk (Kd.R_elder' (by (with_reducible repeat (first | apply Kd.R_alloc | apply Kd.R_drewN | apply Kd.R_drew)); exact HO212.out) (Kd.R_base ho0) hb); have n3_ := Aside0.mk (Kd.R_elder' (by (with_reducible repeat (first | apply Kd.R_alloc | apply Kd.R_drewN | apply Kd.R_drew)); exact HO217.out) (Kd.R_base ho0) hb); have n4_ := Aside0.mk (Kd.R_elder' (by (with_reducible repeat (first | apply Kd.R_alloc | apply Kd.R_drewN | apply Kd.R_drew)); exact HO223.out) (Kd.R_base ho0) hb); have n5_ := Aside0.mk (Kd.R_elder' (by (with_reducible repeat (first | apply Kd.R_alloc | apply Kd.R_drewN | apply Kd.R_drew)); exact HO228.out) (Kd.R_base ho0) hb); have n6_ := Aside0.mk (Kd.R_elder' (by (with_reducible repeat (first | apply Kd.R_alloc | apply Kd.R_drewN | apply Kd.R_drew)); exact HO234.out) (Kd.R_base ho0) hb); have n7_ := Aside0.mk (Kd.R_lower (Kd.R_new' (Kd.R_new' (Kd.R_new' (Kd.R_new' (Kd.R_new' ho0 (Kd.R_lt (by (with_reducible repeat (first | apply Kd.R_alloc | apply Kd.R_drewN | apply Kd.R_drew)); exact HO212.out))) (Kd.R_lt (by (with_reducible repeat (first | apply Kd.R_alloc | apply Kd.R_drewN | apply Kd.R_drew)); exact HO217.out))) (Kd.R_lt (by (with_reducible repeat (first | apply Kd.R_alloc | apply Kd.R_drewN | apply Kd.R_drew)); exact HO223.out))) (Kd.R_lt (by (with_reducible repeat (first | apply Kd.R_alloc | apply Kd.R_drewN | apply Kd.R_drew)); exact HO228.out))) (Kd.R_lt (by (with_reducible repeat (first | apply Kd.R_alloc | apply Kd.R_drewN | apply Kd.R_drew)); exact HO234.out))) (below_size (by repeat (first | (with_reducible first | exact HB.out | apply below_alloc | apply pw_below_drewN | apply below_drew1) | exact HB.out)))); have n8_ := Aside0.mk (below_step (by repeat (first | (with_reducible first | exact HB.out | apply below_alloc | apply pw_below_drewN | apply below_drew1) | exact HB.out)) hb); clear HO203; clear HO206; clear HO212; clear HO217; clear HO223; clear HO228; clear HO234; clear HB; have HO203 := n0_; have HO206 := n1_; have HO212 := n2_; have HO217 := n3_; have HO223 := n4_; have HO228 := n5_; have HO234 := n6_; have HO239 := n7_; have HB := n8_; clear n0_ n1_ n2_ n3_ n4_ n5_ n6_ n7_ n8_; (try clear hb); (try clear hb2); (try clear hk); (try clear hi); (try clear ho0)))
        (try simp only [Act.put, List.setIfInBounds_toArray, List.set_cons_zero, List.set_cons_succ])
        go_cut [102] (fun v102 wc => ∃ (kq : Nat) (x102_16 : Bool), v102 = .bool x102_16 ∧ Aside0 (lienlaw02_CodeBack.j0 kq t201 x102_16 = some r) ∧ Aside0 (kq ≤ k) ∧ Aside0 (Kd.R Kd.string 9 wc w.heap.size (fun _ => True) v202 t201) ∧ Aside0 (Below w.heap.size w wc))
        case first =>
          have H := HC17.out
          clear HC17
          by_cases c33 : t215 = true
          · subst c33
            have H1 : (if t226 = true then (if t237 = true then (if t213 = a0 then (if t224.toList = t200.toList then (if t235 = a0 then (if (strOfNums t214).toList = (strOfNums t204).toList then (if (strOfNums t225).toList = (strOfNums t204).toList then (lienlaw02_CodeBack.j0 k t201 ((strOfNums t236).toList != (strOfNums t204).toList)) else (lienlaw02_CodeBack.j0 k t201 true)) else (lienlaw02_CodeBack.j0 k t201 true)) else (lienlaw02_CodeBack.j0 k t201 true)) else (lienlaw02_CodeBack.j0 k t201 true)) else (lienlaw02_CodeBack.j0 k t201 true)) else (lienlaw02_CodeBack.j0 k t201 true)) else (lienlaw02_CodeBack.j0 k t201 true)) = some r := by rw [if_pos rfl] at H; exact H
            clear H
            have H := H1
            clear H1
            by_cases c34 : t226 = true
            · subst c34
              have H1 : (if t237 = true then (if t213 = a0 then (if t224.toList = t200.toList then (if t235 = a0 then (if (strOfNums t214).toList = (strOfNums t204).toList then (if (strOfNums t225).toList = (strOfNums t204).toList then (lienlaw02_CodeBack.j0 k t201 ((strOfNums t236).toList != (strOfNums t204).toList)) else (lienlaw02_CodeBack.j0 k t201 true)) else (lienlaw02_CodeBack.j0 k t201 true)) else (lienlaw02_CodeBack.j0 k t201 true)) else (lienlaw02_CodeBack.j0 k t201 true)) else (lienlaw02_CodeBack.j0 k t201 true)) else (lienlaw02_CodeBack.j0 k t201 true)) = some r := by rw [if_pos rfl] at H; exact H
              clear H
              have H := H1
              clear H1
              by_cases c35 : t237 = true
              · subst c35
                have H1 : (if t213 = a0 then (if t224.toList = t200.toList then (if t235 = a0 then (if (strOfNums t214).toList = (strOfNums t204).toList then (if (strOfNums t225).toList = (strOfNums t204).toList then (lienlaw02_CodeBack.j0 k t201 ((strOfNums t236).toList != (strOfNums t204).toList)) else (lienlaw02_CodeBack.j0 k t201 true)) else (lienlaw02_CodeBack.j0 k t201 true)) else (lienlaw02_CodeBack.j0 k t201 true)) else (lienlaw02_CodeBack.j0 k t201 true)) else (lienlaw02_CodeBack.j0 k t201 true)) = some r := by rw [if_pos rfl] at H; exact H
                clear H
                have H := H1
                clear H1
                by_cases c36 : t213 = a0
                · rw [if_pos c36] at H
                  have c36b0 : (t213 == a0) = true := beq_iff_eq.mpr c36
                  have c36b1 : (t213 != a0) = false := bne_eq_false_iff_eq.mpr c36
                  clear c36
                  (first | rw [c36b0] | (simp only [i64_w, i32_w]; rw [c36b0]) | skip)
                  by_cases c37 : t224.toList = t200.toList
                  · rw [if_pos c37] at H
                    have c37b0 : (t224.toList == t200.toList) = true := beq_iff_eq.mpr c37
                    have c37b1 : (t224.toList != t200.toList) = false := bne_eq_false_iff_eq.mpr c37
                    clear c37
                    by_cases c38 : t235 = a0
                    · rw [if_pos c38] at H
                      have c38b0 : (t235 == a0) = true := beq_iff_eq.mpr c38
                      have c38b1 : (t235 != a0) = false := bne_eq_false_iff_eq.mpr c38
                      clear c38
                      by_cases c39 : (strOfNums t214).toList = (strOfNums t204).toList
                      · rw [if_pos c39] at H
                        have c39b0 : ((strOfNums t214).toList == (strOfNums t204).toList) = true := beq_iff_eq.mpr c39
                        have c39b1 : ((strOfNums t214).toList != (strOfNums t204).toList) = false := bne_eq_false_iff_eq.mpr c39
                        clear c39
                        by_cases c40 : (strOfNums t225).toList = (strOfNums t204).toList
                        · rw [if_pos c40] at H
                          have c40b0 : ((strOfNums t225).toList == (strOfNums t204).toList) = true := beq_iff_eq.mpr c40
                          have c40b1 : ((strOfNums t225).toList != (strOfNums t204).toList) = false := bne_eq_false_iff_eq.mpr c40
                          clear c40
                          have H' := Aside0.mk H
                          clear H
                          have hcv41 := own_string (P := Try.prog) Try.underlying22 Try.underlying5 Try.underlying9 (Kd.own_of_R HO217.out)
                          have hcv42 := V_string (P := Try.prog) Try.underlying22 Try.underlying5 Try.underlying9 (HO206.out)
                          have hcv43 := own_string (P := Try.prog) Try.underlying22 Try.underlying5 Try.underlying9 (Kd.own_of_R HO228.out)
                          have hcv44 := V_string (P := Try.prog) Try.underlying22 Try.underlying5 Try.underlying9 (HO206.out)
                          have hcv45 := own_string (P := Try.prog) Try.underlying22 Try.underlying5 Try.underlying9 (Kd.own_of_R HO239.out)
                          have hcv46 := V_string (P := Try.prog) Try.underlying22 Try.underlying5 Try.underlying9 (HO206.out)
                          go_wp2
                          go_meet
                          case rel => exact ⟨_, (((strOfNums t236).toList != (strOfNums t204).toList)), (by first | rfl | (simp; done) | (simp [*]; done)), H', ⟨by first | omega | exact Nat.le_refl _⟩, ⟨by (with_reducible repeat (first | apply Kd.R_alloc | apply Kd.R_drewN | apply Kd.R_drew)); exact HO203.out⟩, ⟨by repeat (first | (with_reducible first | exact HB.out | apply below_alloc | apply pw_below_drewN | apply below_drew1) | exact HB.out)⟩⟩
                        · rw [if_neg c40] at H
                          have c40b0 : ((strOfNums t225).toList == (strOfNums t204).toList) = false := beq_eq_false_iff_ne.mpr c40
                          have c40b1 : ((strOfNums t225).toList != (strOfNums t204).toList) = true := bne_iff_ne.mpr c40
                          have H' := Aside0.mk H
                          clear H
                          have hcv47 := own_string (P := Try.prog) Try.underlying22 Try.underlying5 Try.underlying9 (Kd.own_of_R HO217.out)
                          have hcv48 := V_string (P := Try.prog) Try.underlying22 Try.underlying5 Try.underlying9 (HO206.out)
                          have hcv49 := own_string (P := Try.prog) Try.underlying22 Try.underlying5 Try.underlying9 (Kd.own_of_R HO228.out)
                          have hcv50 := V_string (P := Try.prog) Try.underlying22 Try.underlying5 Try.underlying9 (HO206.out)
                          go_wp2
                          go_meet
                          case rel => exact ⟨_, (true), (by first | rfl | (simp; done) | (simp [*]; done)), H', ⟨by first | omega | exact Nat.le_refl _⟩, ⟨by (with_reducible repeat (first | apply Kd.R_alloc | apply Kd.R_drewN | apply Kd.R_drew)); exact HO203.out⟩, ⟨by repeat (first | (with_reducible first | exact HB.out | apply below_alloc | apply pw_below_drewN | apply below_drew1) | exact HB.out)⟩⟩
                      · rw [if_neg c39] at H
                        have c39b0 : ((strOfNums t214).toList == (strOfNums t204).toList) = false := beq_eq_false_iff_ne.mpr c39
                        have c39b1 : ((strOfNums t214).toList != (strOfNums t204).toList) = true := bne_iff_ne.mpr c39
                        have H' := Aside0.mk H
                        clear H
                        have hcv51 := own_string (P := Try.prog) Try.underlying22 Try.underlying5 Try.underlying9 (Kd.own_of_R HO217.out)
                        have hcv52 := V_string (P := Try.prog) Try.underlying22 Try.underlying5 Try.underlying9 (HO206.out)
                        go_wp2
                        go_meet
                        case rel => exact ⟨_, (true), (by first | rfl | (simp; done) | (simp [*]; done)), H', ⟨by first | omega | exact Nat.le_refl _⟩, ⟨by (with_reducible repeat (first | apply Kd.R_alloc | apply Kd.R_drewN | apply Kd.R_drew)); exact HO203.out⟩, ⟨by repeat (first | (with_reducible first | exact HB.out | apply below_alloc | apply pw_below_drewN | apply below_drew1) | exact HB.out)⟩⟩
                    · rw [if_neg c38] at H
                      have c38b0 : (t235 == a0) = false := beq_eq_false_iff_ne.mpr c38
                      have c38b1 : (t235 != a0) = true := bne_iff_ne.mpr c38
                      have H' := Aside0.mk H
                      clear H
                      go_wp2
                      go_meet
                      case rel => exact ⟨_, (true), (by first | rfl | (simp; done) | (simp [*]; done)), H', ⟨by first | omega | exact Nat.le_refl _⟩, ⟨by (with_reducible repeat (first | apply Kd.R_alloc | apply Kd.R_drewN | apply Kd.R_drew)); exact HO203.out⟩, ⟨by repeat (first | (with_reducible first | exact HB.out | apply below_alloc | apply pw_below_drewN | apply below_drew1) | exact HB.out)⟩⟩
                  · rw [if_neg c37] at H
                    have c37b0 : (t224.toList == t200.toList) = false := beq_eq_false_iff_ne.mpr c37
                    have c37b1 : (t224.toList != t200.toList) = true := bne_iff_ne.mpr c37
                    have H' := Aside0.mk H
                    clear H
                    go_wp2
                    go_meet
                    case rel => exact ⟨_, (true), (by first | rfl | (simp; done) | (simp [*]; done)), H', ⟨by first | omega | exact Nat.le_refl _⟩, ⟨by (with_reducible repeat (first | apply Kd.R_alloc | apply Kd.R_drewN | apply Kd.R_drew)); exact HO203.out⟩, ⟨by repeat (first | (with_reducible first | exact HB.out | apply below_alloc | apply pw_below_drewN | apply below_drew1) | exact HB.out)⟩⟩
                · rw [if_neg c36] at H
                  have c36b0 : (t213 == a0) = false := beq_eq_false_iff_ne.mpr c36
                  have c36b1 : (t213 != a0) = true := bne_iff_ne.mpr c36
                  (first | rw [c36b0] | (simp only [i64_w, i32_w]; rw [c36b0]) | skip)
                  have H' := Aside0.mk H
                  clear H
                  go_wp2
                  go_meet
                  case rel => exact ⟨_, (true), (by first | rfl | (simp; done) | (simp [*]; done)), H', ⟨by first | omega | exact Nat.le_refl _⟩, ⟨by (with_reducible repeat (first | apply Kd.R_alloc | apply Kd.R_drewN | apply Kd.R_drew)); exact HO203.out⟩, ⟨by repeat (first | (with_reducible first | exact HB.out | apply below_alloc | apply pw_below_drewN | apply below_drew1) | exact HB.out)⟩⟩
              · replace c35 := Bool.eq_false_iff.mpr c35
                subst c35
                have H1 : (lienlaw02_CodeBack.j0 k t201 true) = some r := by rw [if_neg (show ¬ (false = true) by decide)] at H; exact H
                clear H
                have H := H1
                clear H1
                have H' := Aside0.mk H
                clear H
                go_wp2
                go_meet
                case rel => exact ⟨_, (true), (by first | rfl | (simp; done) | (simp [*]; done)), H', ⟨by first | omega | exact Nat.le_refl _⟩, ⟨by (with_reducible repeat (first | apply Kd.R_alloc | apply Kd.R_drewN | apply Kd.R_drew)); exact HO203.out⟩, ⟨by repeat (first | (with_reducible first | exact HB.out | apply below_alloc | apply pw_below_drewN | apply below_drew1) | exact HB.out)⟩⟩
            · replace c34 := Bool.eq_false_iff.mpr c34
              subst c34
              have H1 : (lienlaw02_CodeBack.j0 k t201 true) = some r := by rw [if_neg (show ¬ (false = true) by decide)] at H; exact H
              clear H
              have H := H1
              clear H1
              have H' := Aside0.mk H
              clear H
              go_wp2
              go_meet
              case rel => exact ⟨_, (true), (by first | rfl | (simp; done) | (simp [*]; done)), H', ⟨by first | omega | exact Nat.le_refl _⟩, ⟨by (with_reducible repeat (first | apply Kd.R_alloc | apply Kd.R_drewN | apply Kd.R_drew)); exact HO203.out⟩, ⟨by repeat (first | (with_reducible first | exact HB.out | apply below_alloc | apply pw_below_drewN | apply below_drew1) | exact HB.out)⟩⟩
          · replace c33 := Bool.eq_false_iff.mpr c33
            subst c33
            have H1 : (lienlaw02_CodeBack.j0 k t201 true) = some r := by rw [if_neg (show ¬ (false = true) by decide)] at H; exact H
            clear H
            have H := H1
            clear H1
            have H' := Aside0.mk H
            clear H
            go_wp2
            go_meet
            case rel => exact ⟨_, (true), (by first | rfl | (simp; done) | (simp [*]; done)), H', ⟨by first | omega | exact Nat.le_refl _⟩, ⟨by (with_reducible repeat (first | apply Kd.R_alloc | apply Kd.R_drewN | apply Kd.R_drew)); exact HO203.out⟩, ⟨by repeat (first | (with_reducible first | exact HB.out | apply below_alloc | apply pw_below_drewN | apply below_drew1) | exact HB.out)⟩⟩
        case rest =>
          clear HC17
          try clear c1
          try clear c2
          try clear p2
          try clear c3
          try clear c4
          try clear hcv4
          try clear c5
          try clear hcv5
          try clear c6
          try clear c8
          try clear c9
          try clear c10
          try clear c11
          try clear c12
          try clear c14
          try clear c15
          try clear c16
          try clear c33
          try clear c34
          try clear c35
          try clear c36
          try clear c36b0
          try clear c36b1
          try clear c37
          try clear c37b0
          try clear c37b1
          try clear c38
          try clear c38b0
          try clear c38b1
          try clear c39
          try clear c39b0
          try clear c39b1
          try clear c40
          try clear c40b0
          try clear c40b1
          try clear hcv41
          try clear hcv42
          try clear hcv43
          try clear hcv44
          try clear hcv45
          try clear hcv46
          try clear hcv47
          try clear hcv48
          try clear hcv49
          try clear hcv50
          try clear hcv51
          try clear hcv52
          obtain ⟨kq, x102_16, rfl, HA, HJ16, HO_2, HB⟩ := hcut
          cases kq with
          | zero => exact absurd HA.out (by simp [lienlaw02_CodeBack.j0])
          | succ kj16 =>
            have H := HA.out
            clear HA
            simp only [lienlaw02_CodeBack.j0] at H
            by_cases c53 : x102_16 = true
            · subst c53
              have H1 : (some false) = some r := by rw [if_pos rfl] at H; exact H
              clear H
              have H := H1
              clear H1
              exact absurd ((Option.some.inj H).trans hr_.out) (by decide)
            · replace c53 := Bool.eq_false_iff.mpr c53
              subst c53
              have H1 : ((code_Key.f kj16 t201).bind fun bt240 => ((code_Parts.f kj16 bt240.1).bind fun bt242 => (if (t201.length : Int) > 8 then (if bt240.2 = 3 then ((lienlaw02_awake.f kj16).bind fun t246 => (some t246)) else (some false)) else (if bt240.2 = 0 then (if bt242.2 = 0 then ((lienlaw02_same.f kj16 bt242.1 t201).bind fun t247 => (if t247 = true then ((lienlaw02_awake.f kj16).bind fun t248 => (some t248)) else (some false))) else (some false)) else (some false))))) = some r := by rw [if_neg (show ¬ (false = true) by decide)] at H; exact H
              clear H
              have H := H1
              clear H1
              replace H := Option.bind_eq_some_iff.mp H
              obtain ⟨⟨t240, t241⟩, A540, H⟩ := H
              replace H : ((code_Parts.f kj16 t240).bind fun bt242 => (if (t201.length : Int) > 8 then (if t241 = 3 then ((lienlaw02_awake.f kj16).bind fun t246 => (some t246)) else (some false)) else (if t241 = 0 then (if bt242.2 = 0 then ((lienlaw02_same.f kj16 bt242.1 t201).bind fun t247 => (if t247 = true then ((lienlaw02_awake.f kj16).bind fun t248 => (some t248)) else (some false))) else (some false)) else (some false)))) = some r := H
              have A54 := Aside0.mk A540
              clear A540
              replace H := Option.bind_eq_some_iff.mp H
              obtain ⟨⟨t242, t243⟩, A550, H⟩ := H
              replace H : (if (t201.length : Int) > 8 then (if t241 = 3 then ((lienlaw02_awake.f kj16).bind fun t246 => (some t246)) else (some false)) else (if t241 = 0 then (if t243 = 0 then ((lienlaw02_same.f kj16 t242 t201).bind fun t247 => (if t247 = true then ((lienlaw02_awake.f kj16).bind fun t248 => (some t248)) else (some false))) else (some false)) else (some false))) = some r := H
              have A55 := Aside0.mk A550
              clear A550
              by_cases c56 : (t201.length : Int) > 8
              · rw [if_pos c56] at H
                have c56b0 : decide (8 < (t201.length : Int)) = true := decide_eq_true c56
                have c56b1 : decide (8 < t201.length) = true := decide_eq_true (by omega)
                clear c56
                by_cases c57 : t241 = 3
                · rw [if_pos c57] at H
                  have c57b0 : (t241 == 3) = true := beq_iff_eq.mpr c57
                  have c57b1 : (t241 != 3) = false := bne_eq_false_iff_eq.mpr c57
                  clear c57
                  replace H := Option.bind_eq_some_iff.mp H
                  obtain ⟨t246, A580, H⟩ := H
                  replace H : (some t246) = some r := H
                  have A58 := Aside0.mk A580
                  clear A580
                  obtain rfl := Option.some.inj H
                  obtain ⟨Ao59, co59, eo59⟩ := Kd.R_slice HO_2.out
                  subst eo59
                  go_wp2_with (first | ((with_reducible refine gate_callee (f := 13) rfl ?_); refine goesL_ (some 105) rfl rfl Try.func13 (by kernel_rfl) rfl #[.slice Ao59 t201.length co59] rfl (by (try simp only [List.map_toArray, List.map_cons, List.map_nil]); first | done | rfl | (simp only [List.length_drop, List.length_take]; rfl)) ?_; (with_reducible refine (code_Key.calls kj16 _ _ t201 t240 t241 _ ?side1 ?side2 A54.out).mono ?_); (case side1 => repeat (first | exact (Kd.R_reads' HO_2.out).2.2 | (with_reducible refine Kd.C_alloc ?_ _) | (with_reducible refine Kd.C_drewN ?_ _) | (with_reducible refine Kd.C_drew ?_))); (case side2 => exact (Kd.R_reads' HO_2.out).2.1); rintro e w60 ⟨rfl, hb⟩; refine ⟨_, rfl, ?_⟩; have n0_ := Aside0.mk (Kd.R_below (by (with_reducible repeat (first | apply Kd.R_alloc | apply Kd.R_drewN | apply Kd.R_drew)); exact HO_2.out) hb); have n1_ := Aside0.mk (below_step (by repeat (first | (with_reducible first | exact HB.out | apply below_alloc | apply pw_below_drewN | apply below_drew1) | exact HB.out)) hb); clear HO_2; clear HB; have HO_2 := n0_; have HB := n1_; clear n0_ n1_; (try clear hb); (try clear hb2); (try clear hk); (try clear hi)) | ((with_reducible refine gate_callee (f := 12) rfl ?_); refine goesL_ (some 110) rfl rfl Try.func12 (by kernel_rfl) rfl #[.string t240] rfl (by (try simp only [List.map_toArray, List.map_cons, List.map_nil]); first | done | rfl | (simp only [List.length_drop, List.length_take]; rfl)) ?_; (with_reducible refine (code_Parts.calls kj16 t240 t242 t243 _ A55.out).mono ?_); rintro e w61 ⟨v244, rfl, ho0, hb⟩; refine ⟨_, rfl, ?_⟩; have n0_ := Aside0.mk (Kd.R_elder' (by (with_reducible repeat (first | apply Kd.R_alloc | apply Kd.R_drewN | apply Kd.R_drew)); exact HO_2.out) (Kd.R_base ho0) hb); have n1_ := Aside0.mk (Kd.R_lower (Kd.R_new' ho0 (Kd.R_lt (by (with_reducible repeat (first | apply Kd.R_alloc | apply Kd.R_drewN | apply Kd.R_drew)); exact HO_2.out))) (below_size (by repeat (first | (with_reducible first | exact HB.out | apply below_alloc | apply pw_below_drewN | apply below_drew1) | exact HB.out)))); have n2_ := Aside0.mk (below_step (by repeat (first | (with_reducible first | exact HB.out | apply below_alloc | apply pw_below_drewN | apply below_drew1) | exact HB.out)) hb); clear HO_2; clear HB; have HO_2 := n0_; have HO245 := n1_; have HB := n2_; clear n0_ n1_ n2_; (try clear hb); (try clear hb2); (try clear hk); (try clear hi); (try clear ho0)) | (go_at_call 7; (with_reducible refine (lienlaw02_awake.calls kj16  t246 _ A58.out).mono ?_); rintro e w62 ⟨rfl, hb⟩; have n0_ := Aside0.mk (Kd.R_below (by (with_reducible repeat (first | apply Kd.R_alloc | apply Kd.R_drewN | apply Kd.R_drew)); exact HO_2.out) hb); have n1_ := Aside0.mk (Kd.R_below (by (with_reducible repeat (first | apply Kd.R_alloc | apply Kd.R_drewN | apply Kd.R_drew)); exact HO245.out) hb); have n2_ := Aside0.mk (below_step (by repeat (first | (with_reducible first | exact HB.out | apply below_alloc | apply pw_below_drewN | apply below_drew1) | exact HB.out)) hb); clear HO_2; clear HO245; clear HB; have HO_2 := n0_; have HO245 := n1_; have HB := n2_; clear n0_ n1_ n2_; (try clear hb); (try clear hb2); (try clear hk); (try clear hi)))
                  go_ret
                  exact ⟨by first | rfl | (simp [errW_none, errW_some] <;> rfl) | (simp [*, errW_none, errW_some] <;> rfl), by repeat (first | (with_reducible first | exact HB.out | apply below_alloc | apply pw_below_drewN | apply below_drew1) | exact HB.out)⟩
                · rw [if_neg c57] at H
                  have c57b0 : (t241 == 3) = false := beq_eq_false_iff_ne.mpr c57
                  have c57b1 : (t241 != 3) = true := bne_iff_ne.mpr c57
                  exact absurd ((Option.some.inj H).trans hr_.out) (by decide)
              · rw [if_neg c56] at H
                have c56b0 : decide (8 < (t201.length : Int)) = false := decide_eq_false c56
                have c56b1 : decide (8 < t201.length) = false := decide_eq_false (by omega)
                clear c56
                by_cases c63 : t241 = 0
                · rw [if_pos c63] at H
                  have c63b0 : (t241 == 0) = true := beq_iff_eq.mpr c63
                  have c63b1 : (t241 != 0) = false := bne_eq_false_iff_eq.mpr c63
                  clear c63
                  by_cases c64 : t243 = 0
                  · rw [if_pos c64] at H
                    have c64b0 : (t243 == 0) = true := beq_iff_eq.mpr c64
                    have c64b1 : (t243 != 0) = false := bne_eq_false_iff_eq.mpr c64
                    clear c64
                    replace H := Option.bind_eq_some_iff.mp H
                    obtain ⟨t247, A650, H⟩ := H
                    replace H : (if t247 = true then ((lienlaw02_awake.f kj16).bind fun t248 => (some t248)) else (some false)) = some r := H
                    have A65 := Aside0.mk A650
                    clear A650
                    by_cases c66 : t247 = true
                    · subst c66
                      have H1 : ((lienlaw02_awake.f kj16).bind fun t248 => (some t248)) = some r := by rw [if_pos rfl] at H; exact H
                      clear H
                      have H := H1
                      clear H1
                      replace H := Option.bind_eq_some_iff.mp H
                      obtain ⟨t248, A670, H⟩ := H
                      replace H : (some t248) = some r := H
                      have A67 := Aside0.mk A670
                      clear A670
                      obtain rfl := Option.some.inj H
                      obtain ⟨Ao68, co68, eo68⟩ := Kd.R_slice HO_2.out
                      subst eo68
                      go_wp2_with (first | ((with_reducible refine gate_callee (f := 13) rfl ?_); refine goesL_ (some 105) rfl rfl Try.func13 (by kernel_rfl) rfl #[.slice Ao68 t201.length co68] rfl (by (try simp only [List.map_toArray, List.map_cons, List.map_nil]); first | done | rfl | (simp only [List.length_drop, List.length_take]; rfl)) ?_; (with_reducible refine (code_Key.calls kj16 _ _ t201 t240 t241 _ ?side1 ?side2 A54.out).mono ?_); (case side1 => repeat (first | exact (Kd.R_reads' HO_2.out).2.2 | (with_reducible refine Kd.C_alloc ?_ _) | (with_reducible refine Kd.C_drewN ?_ _) | (with_reducible refine Kd.C_drew ?_))); (case side2 => exact (Kd.R_reads' HO_2.out).2.1); rintro e w69 ⟨rfl, hb⟩; refine ⟨_, rfl, ?_⟩; have n0_ := Aside0.mk (Kd.R_below (by (with_reducible repeat (first | apply Kd.R_alloc | apply Kd.R_drewN | apply Kd.R_drew)); exact HO_2.out) hb); have n1_ := Aside0.mk (below_step (by repeat (first | (with_reducible first | exact HB.out | apply below_alloc | apply pw_below_drewN | apply below_drew1) | exact HB.out)) hb); clear HO_2; clear HB; have HO_2 := n0_; have HB := n1_; clear n0_ n1_; (try clear hb); (try clear hb2); (try clear hk); (try clear hi)) | ((with_reducible refine gate_callee (f := 12) rfl ?_); refine goesL_ (some 110) rfl rfl Try.func12 (by kernel_rfl) rfl #[.string t240] rfl (by (try simp only [List.map_toArray, List.map_cons, List.map_nil]); first | done | rfl | (simp only [List.length_drop, List.length_take]; rfl)) ?_; (with_reducible refine (code_Parts.calls kj16 t240 t242 t243 _ A55.out).mono ?_); rintro e w70 ⟨v244, rfl, ho0, hb⟩; refine ⟨_, rfl, ?_⟩; have n0_ := Aside0.mk (Kd.R_elder' (by (with_reducible repeat (first | apply Kd.R_alloc | apply Kd.R_drewN | apply Kd.R_drew)); exact HO_2.out) (Kd.R_base ho0) hb); have n1_ := Aside0.mk (Kd.R_lower (Kd.R_new' ho0 (Kd.R_lt (by (with_reducible repeat (first | apply Kd.R_alloc | apply Kd.R_drewN | apply Kd.R_drew)); exact HO_2.out))) (below_size (by repeat (first | (with_reducible first | exact HB.out | apply below_alloc | apply pw_below_drewN | apply below_drew1) | exact HB.out)))); have n2_ := Aside0.mk (below_step (by repeat (first | (with_reducible first | exact HB.out | apply below_alloc | apply pw_below_drewN | apply below_drew1) | exact HB.out)) hb); clear HO_2; clear HB; have HO_2 := n0_; have HO245 := n1_; have HB := n2_; clear n0_ n1_ n2_; (try clear hb); (try clear hb2); (try clear hk); (try clear hi); (try clear ho0); obtain ⟨Ao71, co71, eo71⟩ := Kd.R_slice HO245.out; subst eo71) | (go_at_call 17; (with_reducible refine (lienlaw02_same.calls kj16 _ _ t242 _ _ t201 true _ ?side1 ?side2 ?side3 ?side4 A65.out).mono ?_); (case side1 => repeat (first | exact (Kd.R_reads' HO245.out).2.2 | (with_reducible refine Kd.C_alloc ?_ _) | (with_reducible refine Kd.C_drewN ?_ _) | (with_reducible refine Kd.C_drew ?_))); (case side2 => exact (Kd.R_reads' HO245.out).2.1); (case side3 => repeat (first | exact (Kd.R_reads' HO_2.out).2.2 | (with_reducible refine Kd.C_alloc ?_ _) | (with_reducible refine Kd.C_drewN ?_ _) | (with_reducible refine Kd.C_drew ?_))); (case side4 => exact (Kd.R_reads' HO_2.out).2.1); rintro e w' ⟨rfl, ⟨nd, rfl⟩⟩) | (go_at_call 7; (with_reducible refine (lienlaw02_awake.calls kj16  t248 _ A67.out).mono ?_); rintro e w72 ⟨rfl, hb⟩; have n0_ := Aside0.mk (Kd.R_below (by (with_reducible repeat (first | apply Kd.R_alloc | apply Kd.R_drewN | apply Kd.R_drew)); exact HO_2.out) hb); have n1_ := Aside0.mk (Kd.R_below (by (with_reducible repeat (first | apply Kd.R_alloc | apply Kd.R_drewN | apply Kd.R_drew)); exact HO245.out) hb); have n2_ := Aside0.mk (below_step (by repeat (first | (with_reducible first | exact HB.out | apply below_alloc | apply pw_below_drewN | apply below_drew1) | exact HB.out)) hb); clear HO_2; clear HO245; clear HB; have HO_2 := n0_; have HO245 := n1_; have HB := n2_; clear n0_ n1_ n2_; (try clear hb); (try clear hb2); (try clear hk); (try clear hi)))
                      go_ret
                      exact ⟨by first | rfl | (simp [errW_none, errW_some] <;> rfl) | (simp [*, errW_none, errW_some] <;> rfl), by repeat (first | (with_reducible first | exact HB.out | apply below_alloc | apply pw_below_drewN | apply below_drew1) | exact HB.out)⟩
                    · replace c66 := Bool.eq_false_iff.mpr c66
                      subst c66
                      have H1 : (some false) = some r := by rw [if_neg (show ¬ (false = true) by decide)] at H; exact H
                      clear H
                      have H := H1
                      clear H1
                      exact absurd ((Option.some.inj H).trans hr_.out) (by decide)
                  · rw [if_neg c64] at H
                    have c64b0 : (t243 == 0) = false := beq_eq_false_iff_ne.mpr c64
                    have c64b1 : (t243 != 0) = true := bne_iff_ne.mpr c64
                    exact absurd ((Option.some.inj H).trans hr_.out) (by decide)
                · rw [if_neg c63] at H
                  have c63b0 : (t241 == 0) = false := beq_eq_false_iff_ne.mpr c63
                  have c63b1 : (t241 != 0) = true := bne_iff_ne.mpr c63
                  exact absurd ((Option.some.inj H).trans hr_.out) (by decide)
      · rw [if_neg c15] at H
        exact absurd H (by simp)
    · rw [if_neg c12] at H
      exact absurd H (by simp)
  · rw [if_neg c9] at H
    exact absurd H (by simp)

/-- THE ONE PURE STATEMENT of lienlaw02_CodeBack: yours. -/
def lienlaw02_CodeBack.Pure : Prop := ∀ (a0 : Int) (a1 : ByteArray) (l2 : List ByteArray) (l3 : List Int), ((Lit.int .u64 a0).wf = true) → (a1.size ≤ 140737488351232) → (l2.length * 16 ≤ 140737488351232 ∧ l2.length ≤ maxLen ∧ ∀ a ∈ l2, a.size ≤ 140737488351232) → (l3.length * 1 ≤ 140737488351232 ∧ l3.length ≤ maxLen ∧ ∀ a ∈ l3, (Lit.int .u8 a).wf = true) → ∃ k, lienlaw02_CodeBack.f k a0 a1 l2 l3 = some true

end Go.Proofs.Ytlehgphnjpgjnab.PCodeBack
