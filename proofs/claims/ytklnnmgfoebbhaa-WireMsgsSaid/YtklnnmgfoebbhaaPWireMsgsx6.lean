-- Written by wip/xprint of this repo (our own program) out of the translation; what is marked BY HAND is ours. Not trusted: Lean checks it.
import Derived.Test.YtklnnmgfoebbhaaPWireMsgsx0
import Derived.Test.YtklnnmgfoebbhaaPWireMsgsx2
import Derived.Test.YtklnnmgfoebbhaaPWireMsgsx5
namespace Go.Proofs.Ytklnnmgfoebbhaa.PWireMsgs
open Go.RowKit Go.Proofs.YtklnnmgfoebbhaaW.PrintWords Go.Proofs.YtklnnmgfoebbhaaW.PrintLast Go.Proofs.YtklnnmgfoebbhaaW.PrintMore
attribute [local go_sem] max2_int min2_int max_two min_two max_three min_three max_four min_four   -- for this text's walks alone
set_option linter.unusedVariables false
set_option linter.unusedSimpArgs false

/-! ### ours: wireR -/

def wput : List (Addr × Value) → World → World
  | [], w => w
  | x :: l, w => wput l (w.setCell x.1 x.2)
theorem wput_snoc (l : List (Addr × Value)) (x : Addr × Value) (w : World) : wput (l ++ [x]) w = (wput l w).setCell x.1 x.2 := by
  induction l generalizing w with
  | nil => rfl
  | cons y l ih => exact ih _
theorem wput_far (l : List (Addr × Value)) (w : World) (k : Nat) (h : ∀ x ∈ l, k ≠ x.1.block) : (wput l w).heap[k]? = w.heap[k]? := by
  induction l generalizing w with
  | nil => rfl
  | cons y l ih => exact (ih _ (fun x hx => h x (List.mem_cons_of_mem _ hx))).trans (Below.heap_setCell _ _ _ _ (h y List.mem_cons_self))
theorem wput_size (l : List (Addr × Value)) (w : World) : (wput l w).heap.size = w.heap.size := by
  induction l generalizing w with
  | nil => rfl
  | cons y l ih => exact (ih _).trans (by simp [World.setCell])
theorem put_blk {w : World} {g : Nat} {cs : Array Value} {T : TypeId} (h : w.heap[g]? = some (.cells cs T (0, 0))) (a : Addr) (ha : a = ⟨a.block, a.off, none⟩) (v : Value) : ∃ cs', (w.setCell a v).heap[g]? = some (.cells cs' T (0, 0)) ∧ cs'.size = cs.size := by
  by_cases hg : g = a.block
  · rw [ha, ← hg]
    exact ⟨_, blk_set h a.off v, by simp⟩
  · exact ⟨cs, blk_far h hg v, rfl⟩
theorem wput_blk (l : List (Addr × Value)) {w : World} {g : Nat} {cs : Array Value} {T : TypeId} (h : w.heap[g]? = some (.cells cs T (0, 0))) (hl : ∀ x ∈ l, x.1 = ⟨x.1.block, x.1.off, none⟩) : ∃ cs', (wput l w).heap[g]? = some (.cells cs' T (0, 0)) ∧ cs'.size = cs.size := by
  induction l generalizing w cs with
  | nil => exact ⟨cs, h, rfl⟩
  | cons y l ih =>
    obtain ⟨cs1, h1, e1⟩ := put_blk h y.1 (hl y List.mem_cons_self) y.2
    obtain ⟨cs2, h2, e2⟩ := ih h1 (fun x hx => hl x (List.mem_cons_of_mem _ hx))
    exact ⟨cs2, h2, e2.trans e1⟩
theorem below_both {B : Nat} {x y : World} (h : Below B x y) (a : Addr) (v : Value) : Below B (x.setCell a v) (y.setCell a v) := by
  refine ⟨h.os, h.tape, h.output, by simpa [World.setCell] using h.size, fun k hk => ?_⟩
  have e := h.block k hk
  simp only [World.setCell, Array.getElem?_modify]
  split
  · rw [e]
  · exact e
theorem zip_snoc {α β : Type} (zs : List α) (vs : List β) (v : β) (h : vs.length < zs.length) : List.zip zs (vs ++ [v]) = List.zip zs vs ++ [(zs[vs.length], v)] := by
  induction zs generalizing vs with
  | nil => simp at h
  | cons a zs ih =>
    cases vs with
    | nil => simp
    | cons u vs =>
      simp only [List.length_cons, Nat.add_lt_add_iff_right] at h
      simp [ih vs h]
/-- What fields are written where. -/
def puts (fs : List (Bool × Addr)) (vs : List (Int ⊕ ByteArray)) : List (Addr × Value) := List.zip (fs.map (·.2)) (vs.map fval)
theorem puts_snoc (fs : List (Bool × Addr)) (vs : List (Int ⊕ ByteArray)) (v : Int ⊕ ByteArray) (h : vs.length < fs.length) : puts fs (vs ++ [v]) = puts fs vs ++ [((fs[vs.length]).2, fval v)] := by
  unfold puts
  rw [List.map_append, List.map_singleton, zip_snoc _ _ _ (by simpa using h)]
  simp
theorem puts_mem {fs : List (Bool × Addr)} {vs : List (Int ⊕ ByteArray)} {x : Addr × Value} (h : x ∈ puts fs vs) : ∃ f ∈ fs, f.2 = x.1 := by
  have := (List.of_mem_zip (show (x.1, x.2) ∈ List.zip _ _ from h)).1
  simpa using this
def wireRd (k : Nat) : List Bool → List Int → List (Int ⊕ ByteArray) → Option (Option (List (Int ⊕ ByteArray)))
  | [], b, acc => some (if b.length = 0 then some acc else none)
  | false :: l, b, acc => (code_TakeNum.f k b).bind fun r => if r.2.2 = true then (if r.1 ≤ 9223372036854775807 then wireRd k l r.2.1 (acc ++ [.inl (wrap64 r.1)]) else some none) else some none
  | true :: l, b, acc => (code_TakeText.f k b 4096).bind fun r => if r.2.2 = true then wireRd k l r.2.1 (acc ++ [.inr r.1]) else some none
theorem row_ne {w w' : World} {A : Option Addr} {n c : Nat} {xs : List Int} (h : Kd.R (Kd.int .u8) 5 w' w.heap.size (fun _ => True) (.slice A n c) xs) (g : Nat) (hg : g < w.heap.size) : ∀ ad, A = some ad → ad.block ≠ g := by
  rintro ad rfl
  obtain ⟨b, rfl⟩ := Kd.R_head h
  have := Kd.R_base h b (by simp [Value.ownBlock])
  intro e
  have e' : b = g := e
  omega

set_option maxHeartbeats 8000000 in
set_option maxRecDepth 100000 in
theorem wread (k L c : Nat) (A : Option Addr) (fs : List (Bool × Addr)) (b0 : List Int) (RES : Option (List (Int ⊕ ByteArray))) (w : World) (hL : w.heap[L]? = some (lob fs))
    (hfs : ∀ f ∈ fs, (∃ cs T, w.heap[f.2.block]? = some (.cells cs T (0, 0)) ∧ T ≠ 20 ∧ f.2.off < cs.size) ∧ f.2 = ⟨f.2.block, f.2.off, none⟩)
    (hC : Kd.C (Kd.int .u8) w A b0.length b0) (hc : b0.length ≤ c) (hA : ∀ ad, A = some ad → 0 < b0.length → ∀ f ∈ fs, ad.block ≠ f.2.block) (hn : fs.length ≤ 8) (h : wireRd k (fs.map (·.1)) b0 [] = some RES) :
    Calls Try.prog 35 #[.slice A b0.length c, .slice (some ⟨L, 0, none⟩) fs.length fs.length] w fun e w' => ∃ vs, ((RES = some vs ∧ e = .returned (.tuple #[]) ∧ vs.length = fs.length) ∨ (RES = none ∧ e = .panicked wbad)) ∧ Below w.heap.size (wput (puts fs vs) w) w' := by
  have HL := Aside0.mk hL
  have HF := Aside0.mk hfs
  have HC0 := Aside0.mk hC
  have HCL0 := Aside0.mk hc
  have HA0 := Aside0.mk hA
  have HRES := Aside0.mk h
  clear hL hfs hC hA h hc
  obtain ⟨n, hln⟩ : ∃ n, fs.length = n := ⟨_, rfl⟩
  have HVN := Aside0.mk hln
  rw [hln] at hn ⊢
  clear hln
  go_enter Try.func35, Try.ntmps35
  go_wp2
  go_loopg [0, 16] n (fun kq v0 v16 w' => ∃ (j : Nat) (A : Option Addr) (c : Nat) (b : List Int) (acc : List (Int ⊕ ByteArray)), v0 = .slice A b.length c ∧ v16 = .int .i64 (j : Int) ∧ Aside0 (kq + j = n) ∧ Aside0 (Kd.C (Kd.int .u8) w' A b.length b) ∧ Aside0 (b.length ≤ c) ∧ Aside0 (∀ ad, A = some ad → 0 < b.length → ∀ f ∈ fs, ad.block ≠ f.2.block) ∧ Aside0 (wireRd k ((fs.map (·.1)).drop j) b acc = some RES) ∧ Aside0 (acc.length = j) ∧ Aside0 (Below w.heap.size (wput (puts fs acc) w) w') ∧ Aside0 (w.heap.size ≤ w'.heap.size))
  case atStart => exact ⟨0, A, c, b0, [], rfl, rfl, ⟨rfl⟩, HC0, HCL0, HA0, HRES, ⟨rfl⟩, ⟨by simp [puts]; exact Below.refl _ _⟩, ⟨Nat.le_refl _⟩⟩
  case round =>
    clear HRES HC0 HA0 HCL0
    obtain ⟨j, A, c, b, acc, rfl, rfl, HK, HC, HCB, HA, HRES, HAC, HPB, HSZ⟩ := hrel
    cases gk with
    | zero =>
      have ej : j = n := by have := HK.out; omega
      subst ej
      have h := HRES.out
      rw [List.drop_of_length_le (by have := HVN.out; simp; omega), wireRd] at h
      have h := Option.some.inj h
      by_cases hb0 : b.length = 0
      · rw [if_pos hb0] at h
        have hb1 : ((b.length : Int) == 0) = true := by rw [hb0]; rfl
        have hb2 : (b.length == 0) = true := by rw [hb0]; rfl
        rw [hb0]
        go_wp2_with (first | ((go_at_call 27); (with_reducible refine (must_ok _).mono ?_); rintro e wm ⟨rfl, rfl⟩))
        go_end0
        exact ⟨acc, .inl ⟨h.symm, rfl, HAC.out⟩, HPB.out⟩
      · rw [if_neg hb0] at h
        have hb1 : ((b.length : Int) == 0) = false := beq_eq_false_iff_ne.2 (by omega)
        have hb2 : (b.length == 0) = false := beq_eq_false_iff_ne.2 hb0
        go_wp2_with (first | ((go_at_call 27); (with_reducible refine (must_bad _).mono ?_); rintro e wm ⟨rfl, rfl⟩))
        exact ⟨rfl, acc, .inr ⟨h.symm, rfl⟩, HPB.out⟩
    | succ d =>
      have hj : j < n := by have := HK.out; omega
      have hjb : decide ((j : Int) < (n : Int)) = true := decide_eq_true (by omega)
      have hjb' : decide (j < n) = true := decide_eq_true hj
      have hjf : j < fs.length := by have := HVN.out; omega
      have HJF := Aside0.mk hjf
      have hfm := HF.out fs[j] (List.getElem_mem hjf)
      have hcL := lob_cell2 (w := wr) (L := L) (fs := fs) (by
        have hLl := blk_lt HL.out
        rw [HPB.out.block L hLl, wput_far]
        · exact HL.out
        · intro x hx
          obtain ⟨f, hf, e⟩ := puts_mem hx
          obtain ⟨⟨cs, T, h1, h2, _⟩, _⟩ := HF.out f hf
          rw [← e]
          exact blk_ne HL.out h1 (Ne.symm h2)) hjf
      have h := HRES.out
      rw [List.drop_eq_getElem_cons (by simpa using hjf)] at h
      obtain ⟨⟨tx, a⟩, hfa⟩ : ∃ f, fs[j] = f := ⟨_, rfl⟩
      simp only [List.getElem_map] at h
      rw [hfa] at hcL hfm h
      have HFA := Aside0.mk hfa
      dsimp only at hfm h
      clear hfa
      obtain ⟨⟨cs, T, hk1, hk2, hk3⟩, hae⟩ := hfm
      have HAE := Aside0.mk hae
      have hal : a.block < wr.heap.size := Nat.lt_of_lt_of_le (blk_lt hk1) HSZ.out
      have HAL := Aside0.mk hal
      obtain ⟨cs2, hk4, hk5⟩ := wput_blk (puts fs acc) hk1 (fun x hx => by
        obtain ⟨f, hf, e⟩ := puts_mem hx
        rw [← e]
        exact (HF.out f hf).2)
      have hk6 : wr.heap[a.block]? = some (.cells cs2 T (0, 0)) := (HPB.out.block a.block (blk_lt hk1)).trans hk4
      have hcx := blk_cell hk6 a.off
      have hfx := blk_frozen hk6 a.off
      rw [Array.getElem?_eq_getElem (by omega), ← hae] at hcx
      rw [← hae] at hfx
      obtain ⟨y, hy⟩ : ∃ y, cs2[a.off]'(by omega) = y := ⟨_, rfl⟩
      rw [hy] at hcx
      clear hy hk1 hk2 hk3 hk4 hk5 hk6 hae hal
      cases tx with
      | false =>
        unfold fpv at hcL
        rw [if_neg (by simp)] at hcL
        dsimp only at hcL
        rw [wireRd] at h
        obtain ⟨⟨r1, r2, r3⟩, ht, h⟩ := Option.bind_eq_some_iff.mp h
        dsimp only at h
        have HT := Aside0.mk ht
        clear ht
        cases r3 with
        | false =>
          rw [if_neg (by decide)] at h
          go_wp2_with (first | ((with_reducible refine gate_callee (f := 50) rfl ?_); refine goesL_ (some 26) rfl rfl Try.func50 (by kernel_rfl) rfl #[.slice A b.length c] rfl (by (try simp only [List.map_toArray, List.map_cons, List.map_nil]); first | done | rfl) ?_; (with_reducible refine (code_TakeNum.calls k A c b r1 r2 false _ HC.out HCB.out HT.out).mono ?_); rintro e w4 ⟨v4, rfl, ho, hb⟩; refine ⟨_, rfl, ?_⟩; obtain ⟨A4, c4, rfl, hcl, hC4⟩ := Kd.R_reads ho; have HO := Aside0.mk ho; have HB4 := Aside0.mk hb; have HC4 := Aside0.mk hC4; have HCL := Aside0.mk hcl; have hcx4 := (hb.cell HAL.out).trans hcx; have hfx4 := (hb.frozen HAL.out).trans hfx; clear ho hb hC4 hcl hcx hfx hcL) | ((go_at_call 27); (with_reducible refine (must_bad _).mono ?_); rintro e wm ⟨rfl, rfl⟩))
          exact ⟨rfl, acc, .inr ⟨(Option.some.inj h).symm, rfl⟩, HPB.out.trans (HB4.out.mono HSZ.out)⟩
        | true =>
          rw [if_pos rfl] at h
          by_cases hle : r1 ≤ 9223372036854775807
          · rw [if_pos hle] at h
            have hres := h
            have hle1 : decide (r1 ≤ 9223372036854775807) = true := decide_eq_true hle
            clear h hle
            go_wp2_with (first | ((with_reducible refine gate_callee (f := 50) rfl ?_); refine goesL_ (some 26) rfl rfl Try.func50 (by kernel_rfl) rfl #[.slice A b.length c] rfl (by (try simp only [List.map_toArray, List.map_cons, List.map_nil]); first | done | rfl) ?_; (with_reducible refine (code_TakeNum.calls k A c b r1 r2 true _ HC.out HCB.out HT.out).mono ?_); rintro e w4 ⟨v4, rfl, ho, hb⟩; refine ⟨_, rfl, ?_⟩; obtain ⟨A4, c4, rfl, hcl, hC4⟩ := Kd.R_reads ho; have HO := Aside0.mk ho; have HB4 := Aside0.mk hb; have HC4 := Aside0.mk hC4; have HCL := Aside0.mk hcl; have hcx4 := (hb.cell HAL.out).trans hcx; have hfx4 := (hb.frozen HAL.out).trans hfx; clear ho hb hC4 hcl hcx hfx hcL) | ((go_at_call 27); (with_reducible refine (must_ok _).mono ?_); rintro e wm ⟨rfl, rfl⟩))
            have hsz4 := HB4.out.size
            go_wp2
            go_roundg d
            case measure => omega
            case rel =>
              refine ⟨j + 1, A4, c4, r2, acc ++ [.inl (wrap64 r1)], by first | rfl, by first | rfl | (rw [show wrap64 ((j : Int) + 1) = ((j + 1 : Nat) : Int) from by unfold wrap64; omega]), ⟨by have := HK.out; omega⟩, ⟨?_⟩, HCL, ⟨?_⟩, ⟨hres⟩, ⟨?_⟩, ⟨?_⟩, ⟨?_⟩⟩
              · exact Kd.C_keep 0 HC4.out ((KeepBut.refl _ a.block none).set_ a.off _ |> fun h => by rw [← HAE.out] at h; exact h) (fun ad e _ => row_ne HO.out a.block HAL.out ad e)
              · intro ad e _ f hf
                exact row_ne HO.out f.2.block (Nat.lt_of_lt_of_le (blk_lt (HF.out f hf).1.choose_spec.choose_spec.1) HSZ.out) ad e
              · simp; exact HAC.out
              · rw [puts_snoc _ _ _ (by rw [HAC.out]; exact HJF.out), wput_snoc, show fs[acc.length]'(by rw [HAC.out]; exact HJF.out) = (false, a) from by rw [← HFA.out]; congr 1; exact HAC.out]
                exact below_both (HPB.out.trans (HB4.out.mono HSZ.out)) _ _
              · exact Nat.le_trans HSZ.out (by simpa [World.setCell] using hsz4)
          · rw [if_neg hle] at h
            have hle1 : decide (r1 ≤ 9223372036854775807) = false := decide_eq_false hle
            clear hle
            go_wp2_with (first | ((with_reducible refine gate_callee (f := 50) rfl ?_); refine goesL_ (some 26) rfl rfl Try.func50 (by kernel_rfl) rfl #[.slice A b.length c] rfl (by (try simp only [List.map_toArray, List.map_cons, List.map_nil]); first | done | rfl) ?_; (with_reducible refine (code_TakeNum.calls k A c b r1 r2 true _ HC.out HCB.out HT.out).mono ?_); rintro e w4 ⟨v4, rfl, ho, hb⟩; refine ⟨_, rfl, ?_⟩; obtain ⟨A4, c4, rfl, hcl, hC4⟩ := Kd.R_reads ho; have HO := Aside0.mk ho; have HB4 := Aside0.mk hb; have HC4 := Aside0.mk hC4; have HCL := Aside0.mk hcl; have hcx4 := (hb.cell HAL.out).trans hcx; have hfx4 := (hb.frozen HAL.out).trans hfx; clear ho hb hC4 hcl hcx hfx hcL) | ((go_at_call 27); (with_reducible refine (must_bad _).mono ?_); rintro e wm ⟨rfl, rfl⟩))
            exact ⟨rfl, acc, .inr ⟨(Option.some.inj h).symm, rfl⟩, HPB.out.trans (HB4.out.mono HSZ.out)⟩
      | true =>
        unfold fpv at hcL
        rw [if_pos (by simp)] at hcL
        dsimp only at hcL
        rw [wireRd] at h
        obtain ⟨⟨r1, r2, r3⟩, ht, h⟩ := Option.bind_eq_some_iff.mp h
        dsimp only at h
        have HT := Aside0.mk ht
        clear ht
        cases r3 with
        | false =>
          rw [if_neg (by decide)] at h
          go_wp2_with (first | ((with_reducible refine gate_callee (f := 51) rfl ?_); refine goesL_ (some 46) rfl rfl Try.func51 (by kernel_rfl) rfl #[.slice A b.length c, .int .i64 4096] rfl (by (try simp only [List.map_toArray, List.map_cons, List.map_nil]); first | done | rfl) ?_; (with_reducible refine (code_TakeText.calls k A c b 4096 r1 r2 false _ HC.out HCB.out HT.out).mono ?_); rintro e w4 ⟨v4, rfl, ho, hb⟩; refine ⟨_, rfl, ?_⟩; obtain ⟨A4, c4, rfl, hcl, hC4⟩ := Kd.R_reads ho; have HO := Aside0.mk ho; have HB4 := Aside0.mk hb; have HC4 := Aside0.mk hC4; have HCL := Aside0.mk hcl; have hcx4 := (hb.cell HAL.out).trans hcx; have hfx4 := (hb.frozen HAL.out).trans hfx; clear ho hb hC4 hcl hcx hfx hcL) | ((go_at_call 27); (with_reducible refine (must_bad _).mono ?_); rintro e wm ⟨rfl, rfl⟩))
          exact ⟨rfl, acc, .inr ⟨(Option.some.inj h).symm, rfl⟩, HPB.out.trans (HB4.out.mono HSZ.out)⟩
        | true =>
          rw [if_pos rfl] at h
          have hres := h
          clear h
          go_wp2_with (first | ((with_reducible refine gate_callee (f := 51) rfl ?_); refine goesL_ (some 46) rfl rfl Try.func51 (by kernel_rfl) rfl #[.slice A b.length c, .int .i64 4096] rfl (by (try simp only [List.map_toArray, List.map_cons, List.map_nil]); first | done | rfl) ?_; (with_reducible refine (code_TakeText.calls k A c b 4096 r1 r2 true _ HC.out HCB.out HT.out).mono ?_); rintro e w4 ⟨v4, rfl, ho, hb⟩; refine ⟨_, rfl, ?_⟩; obtain ⟨A4, c4, rfl, hcl, hC4⟩ := Kd.R_reads ho; have HO := Aside0.mk ho; have HB4 := Aside0.mk hb; have HC4 := Aside0.mk hC4; have HCL := Aside0.mk hcl; have hcx4 := (hb.cell HAL.out).trans hcx; have hfx4 := (hb.frozen HAL.out).trans hfx; clear ho hb hC4 hcl hcx hfx hcL) | ((go_at_call 27); (with_reducible refine (must_ok _).mono ?_); rintro e wm ⟨rfl, rfl⟩))
          have hsz4 := HB4.out.size
          go_wp2
          go_roundg d
          case measure => omega
          case rel =>
            refine ⟨j + 1, A4, c4, r2, acc ++ [.inr r1], by first | rfl, by first | rfl | (rw [show wrap64 ((j : Int) + 1) = ((j + 1 : Nat) : Int) from by unfold wrap64; omega]), ⟨by have := HK.out; omega⟩, ⟨?_⟩, HCL, ⟨?_⟩, ⟨hres⟩, ⟨?_⟩, ⟨?_⟩, ⟨?_⟩⟩
            · exact Kd.C_keep 0 HC4.out ((KeepBut.refl _ a.block none).set_ a.off _ |> fun h => by rw [← HAE.out] at h; exact h) (fun ad e _ => row_ne HO.out a.block HAL.out ad e)
            · intro ad e _ f hf
              exact row_ne HO.out f.2.block (Nat.lt_of_lt_of_le (blk_lt (HF.out f hf).1.choose_spec.choose_spec.1) HSZ.out) ad e
            · simp; exact HAC.out
            · rw [puts_snoc _ _ _ (by rw [HAC.out]; exact HJF.out), wput_snoc, show fs[acc.length]'(by rw [HAC.out]; exact HJF.out) = (true, a) from by rw [← HFA.out]; congr 1; exact HAC.out]
              exact below_both (HPB.out.trans (HB4.out.mono HSZ.out)) _ _
            · exact Nat.le_trans HSZ.out (by simpa [World.setCell] using hsz4)

theorem wput_below {B : Nat} {a : World} (l : List (Addr × Value)) (w : World) (hB : Below B a w) (hl : ∀ x ∈ l, B ≤ x.1.block) : Below B a (wput l w) := by
  induction l generalizing w with
  | nil => exact hB
  | cons y l ih => exact ih _ (hB.setCell (hl y List.mem_cons_self) _) (fun x hx => hl x (List.mem_cons_of_mem _ hx))
theorem read_after {fs : List (Bool × Addr)} {vs : List (Int ⊕ ByteArray)} {w0 w w8 : World} {B : Nat} (hB : Below B w0 w) (hBs : B ≤ w.heap.size) (hb : Below w.heap.size (wput (puts fs vs) w) w8) (hfs : ∀ f ∈ fs, B ≤ f.2.block ∧ f.2 = ⟨f.2.block, f.2.off, none⟩) :
    Below B w0 w8 ∧ (∀ g o, w.heap[g]? = some o → (∀ f ∈ fs, f.2.block ≠ g) → w8.heap[g]? = some o) ∧ (∀ (g : Nat) (cs : Array Value) (T : TypeId), w.heap[g]? = some (.cells cs T (0, 0)) → ∃ cs', w8.heap[g]? = some (.cells cs' T (0, 0)) ∧ cs'.size = cs.size) := by
  refine ⟨(wput_below _ w hB (fun x hx => ?_)).trans (hb.mono hBs), fun g o hg hf => ?_, fun g cs T hg => ?_⟩
  · obtain ⟨f, hf, e⟩ := puts_mem hx
    rw [← e]
    exact (hfs f hf).1
  · rw [hb.block g (blk_lt hg), wput_far]
    · exact hg
    · intro x hx
      obtain ⟨f, hf', e⟩ := puts_mem hx
      rw [← e]
      exact Ne.symm (hf f hf')
  · rw [hb.block g (blk_lt hg)]
    refine wput_blk _ hg (fun x hx => ?_)
    obtain ⟨f, hf', e⟩ := puts_mem hx
    rw [← e]
    exact (hfs f hf').2
theorem wireRd_kinds (k : Nat) : ∀ (ts : List Bool) (b : List Int) (acc vs : List (Int ⊕ ByteArray)), wireRd k ts b acc = some (some vs) → ∃ us, vs = acc ++ us ∧ us.map isTx = ts
  | [], b, acc, vs, h => by
    rw [wireRd] at h
    split at h
    · simp at h; exact ⟨[], by simp [h], rfl⟩
    · simp at h
  | false :: ts, b, acc, vs, h => by
    rw [wireRd] at h
    obtain ⟨r, hr, h⟩ := Option.bind_eq_some_iff.mp h
    split at h
    · split at h
      · obtain ⟨us, rfl, hu⟩ := wireRd_kinds k ts _ _ _ h
        exact ⟨.inl (wrap64 r.1) :: us, by simp, by simp [hu, isTx]⟩
      · simp at h
    · simp at h
  | true :: ts, b, acc, vs, h => by
    rw [wireRd] at h
    obtain ⟨r, hr, h⟩ := Option.bind_eq_some_iff.mp h
    split at h
    · obtain ⟨us, rfl, hu⟩ := wireRd_kinds k ts _ _ _ h
      exact ⟨.inr r.1 :: us, by simp, by simp [hu, isTx]⟩
    · simp at h

theorem wireRd_mono : ∀ (l : List Bool) (b : List Int) (acc : List (Int ⊕ ByteArray)) (k : Nat), LeO (wireRd k l b acc) (wireRd (k + 1) l b acc)
  | [], b, acc, k => LeO.refl _
  | false :: l, b, acc, k => by
    rw [wireRd, wireRd]
    exact LeO.bind (code_TakeNum.mono _ k) (fun t => LeO.ite (LeO.ite (wireRd_mono l _ _ k) (LeO.refl _)) (LeO.refl _))
  | true :: l, b, acc, k => by
    rw [wireRd, wireRd]
    exact LeO.bind (code_TakeText.mono _ _ k) (fun t => LeO.ite (wireRd_mono l _ _ k) (LeO.refl _))

/-! ### ours: wireG -/

set_option maxHeartbeats 4000000 in
set_option maxRecDepth 100000 in
theorem wkind_ok (k : Nat) (A0 : Option Addr) (c0 : Nat) (l0 : List Int) (r1 : Int) (r2 : List Int) (w : World) (hr0 : Kd.C (Kd.int .u8) w A0 l0.length l0) (hc0 : l0.length ≤ c0) (h : code_TakeNum.f k l0 = some (r1, r2, true)) (hle : r1 ≤ 1000) :
    Calls Try.prog 34 #[.slice A0 l0.length c0] w fun e w' => ∃ A c, e = .returned (.tuple #[.int .i64 (wrap64 r1), .slice A r2.length c]) ∧ Kd.R (Kd.int .u8) 5 w' w.heap.size (fun _ => True) (.slice A r2.length c) r2 ∧ r2.length ≤ c ∧ Kd.C (Kd.int .u8) w' A r2.length r2 ∧ Below w.heap.size w w' := by
  have HC := Aside0.mk hr0
  have HT := Aside0.mk h
  have HCL := Aside0.mk hc0
  have hle1 : decide (r1 ≤ 1000) = true := decide_eq_true hle
  clear hr0 h hc0 hle
  go_enter Try.func34, Try.ntmps34
  go_wp2_with (first | ((with_reducible refine gate_callee (f := 50) rfl ?_); refine goesL_ (some 9) rfl rfl Try.func50 (by kernel_rfl) rfl #[.slice A0 l0.length c0] rfl (by (try simp only [List.map_toArray, List.map_cons, List.map_nil]); first | done | rfl) ?_; (with_reducible refine (code_TakeNum.calls k A0 c0 l0 r1 r2 true _ HC.out HCL.out HT.out).mono ?_); rintro e w4 ⟨v4, rfl, ho, hb⟩; refine ⟨_, rfl, ?_⟩; obtain ⟨A4, c4, rfl, hcl, hC4⟩ := Kd.R_reads ho; have HO := Aside0.mk ho; have HB4 := Aside0.mk hb; have HC4 := Aside0.mk hC4; have HCL4 := Aside0.mk hcl; clear ho hb hC4 hcl) | ((go_at_call 27); (with_reducible refine (must_ok _).mono ?_); rintro e wm ⟨rfl, rfl⟩))
  go_ret2
  exact ⟨_, _, rfl, HO.out, HCL4.out, HC4.out, HB4.out⟩
set_option maxHeartbeats 4000000 in
set_option maxRecDepth 100000 in
theorem wkind_bad (k : Nat) (A0 : Option Addr) (c0 : Nat) (l0 : List Int) (r1 : Int) (r2 : List Int) (r3 : Bool) (w : World) (hr0 : Kd.C (Kd.int .u8) w A0 l0.length l0) (hc0 : l0.length ≤ c0) (h : code_TakeNum.f k l0 = some (r1, r2, r3)) (hle : ¬ (r3 = true ∧ r1 ≤ 1000)) :
    Calls Try.prog 34 #[.slice A0 l0.length c0] w fun e w' => e = .panicked wbad ∧ Below w.heap.size w w' := by
  have HC := Aside0.mk hr0
  have HT := Aside0.mk h
  have HCL := Aside0.mk hc0
  clear hr0 h hc0
  go_enter Try.func34, Try.ntmps34
  cases r3 with
  | false =>
    go_wp2_with (first | ((with_reducible refine gate_callee (f := 50) rfl ?_); refine goesL_ (some 9) rfl rfl Try.func50 (by kernel_rfl) rfl #[.slice A0 l0.length c0] rfl (by (try simp only [List.map_toArray, List.map_cons, List.map_nil]); first | done | rfl) ?_; (with_reducible refine (code_TakeNum.calls k A0 c0 l0 r1 r2 false _ HC.out HCL.out HT.out).mono ?_); rintro e w4 ⟨v4, rfl, ho, hb⟩; refine ⟨_, rfl, ?_⟩; obtain ⟨A4, c4, rfl, hcl, hC4⟩ := Kd.R_reads ho; have HO := Aside0.mk ho; have HB4 := Aside0.mk hb; have HC4 := Aside0.mk hC4; have HCL4 := Aside0.mk hcl; clear ho hb hC4 hcl) | ((go_at_call 27); (with_reducible refine (must_bad _).mono ?_); rintro e wm ⟨rfl, rfl⟩))
    exact ⟨rfl, rfl, HB4.out⟩
  | true =>
    have hle1 : decide (r1 ≤ 1000) = false := decide_eq_false (fun h => hle ⟨rfl, h⟩)
    clear hle
    go_wp2_with (first | ((with_reducible refine gate_callee (f := 50) rfl ?_); refine goesL_ (some 9) rfl rfl Try.func50 (by kernel_rfl) rfl #[.slice A0 l0.length c0] rfl (by (try simp only [List.map_toArray, List.map_cons, List.map_nil]); first | done | rfl) ?_; (with_reducible refine (code_TakeNum.calls k A0 c0 l0 r1 r2 true _ HC.out HCL.out HT.out).mono ?_); rintro e w4 ⟨v4, rfl, ho, hb⟩; refine ⟨_, rfl, ?_⟩; obtain ⟨A4, c4, rfl, hcl, hC4⟩ := Kd.R_reads ho; have HO := Aside0.mk ho; have HB4 := Aside0.mk hb; have HC4 := Aside0.mk hC4; have HCL4 := Aside0.mk hcl; clear ho hb hC4 hcl) | ((go_at_call 27); (with_reducible refine (must_bad _).mono ?_); rintro e wm ⟨rfl, rfl⟩))
    exact ⟨rfl, rfl, HB4.out⟩

theorem len1 {α : Type} {l : List α} (h : l.length = 1) : ∃ a, l = [a] := by match l, h with | [a], _ => exact ⟨a, rfl⟩
theorem len2 {α : Type} {l : List α} (h : l.length = 2) : ∃ a b, l = [a, b] := by match l, h with | [a, b], _ => exact ⟨a, b, rfl⟩
theorem len3 {α : Type} {l : List α} (h : l.length = 3) : ∃ a b c, l = [a, b, c] := by match l, h with | [a, b, c], _ => exact ⟨a, b, c, rfl⟩
theorem len4 {α : Type} {l : List α} (h : l.length = 4) : ∃ a b c d, l = [a, b, c, d] := by match l, h with | [a, b, c, d], _ => exact ⟨a, b, c, d, rfl⟩
def getN : List Nat → List (Int ⊕ ByteArray) → Nat → Int
  | o' :: os, v :: vs, o => if o' = o then (match v with | .inl n => n | .inr _ => 0) else getN os vs o
  | _, _, _ => 0
def getS : List Nat → List (Int ⊕ ByteArray) → Nat → ByteArray
  | o' :: os, v :: vs, o => if o' = o then (match v with | .inl _ => ⟨#[]⟩ | .inr s => s) else getS os vs o
  | _, _, _ => ⟨#[]⟩
theorem wput_cells (l : List (Nat × Value)) {w : World} {g : Nat} {cs : Array Value} {T : TypeId} (h : w.heap[g]? = some (.cells cs T (0, 0))) : (wput (l.map fun x => (⟨g, x.1, none⟩, x.2)) w).heap[g]? = some (.cells (l.foldl (fun c x => c.setIfInBounds x.1 x.2) cs) T (0, 0)) := by
  induction l generalizing w cs with
  | nil => exact h
  | cons y l ih => exact ih (blk_set h y.1 y.2)
theorem puts_fps (t g : Nat) (os : List Nat) (vs : List (Int ⊕ ByteArray)) : puts (fps t g os) vs = (List.zip os (vs.map fval)).map fun x => (⟨g, x.1, none⟩, x.2) := by
  unfold puts fps
  rw [List.map_map, show ((fun x : Bool × Addr => x.2) ∘ fun o => (o == t, (⟨g, o, none⟩ : Addr))) = (fun o => (⟨g, o, none⟩ : Addr)) from rfl, List.zip_map_left]
  rfl
theorem fps_fst (t g : Nat) (os : List Nat) : (fps t g os).map (·.1) = os.map (· == t) := by simp [fps, Function.comp_def]
theorem kinds_cons {v : Int ⊕ ByteArray} {b : Bool} (h : isTx v = b) : if b = true then ∃ s, v = .inr s else ∃ n, v = .inl n := by
  subst h
  cases v with
  | inl n => rw [if_neg (by simp [isTx])]; exact ⟨n, rfl⟩
  | inr s => rw [if_pos (by simp [isTx])]; exact ⟨s, rfl⟩

/-! ### wire_ReadMsg: function 12 -/
-- BY HAND

theorem clMessage_bad (g g2 : Nat) (x : Int) (u : FrameMode) (z0 z1 z2 z3 z4 : Value) (w : World) (hx : x ≠ 0) (hc : w.heap[g]? = some (.cells #[.int .i64 x] 28 (0, 0))) (hc2 : w.heap[g2]? = some (.cells #[z0, z1, z2, z3, z4] 24 (0, 0))) :
    CallsD Try.prog 33 #[.pointer (some ⟨g, 0, none⟩), .pointer (some ⟨g2, 0, none⟩)] u w fun e u' w' =>
      u' = u ∧ (e = .returned (.tuple #[]) ∧ w' = (((((w.setCell ⟨g2, 0, none⟩ (Value.int .i64 0)).setCell ⟨g2, 1, none⟩ (Value.int .i64 0)).setCell ⟨g2, 2, none⟩ (Value.int .i64 0)).setCell ⟨g2, 3, none⟩ (Value.string ⟨#[]⟩)).setCell ⟨g2, 4, none⟩ (Value.int .i64 0))) := by
  have h1 := blk_cell hc 0
  simp only [List.getElem?_toArray, List.getElem?_cons_zero] at h1
  have k0 := blk_cell hc2 0; have f0 := blk_frozen hc2 0; simp only [List.getElem?_toArray, List.getElem?_cons_zero, List.getElem?_cons_succ] at k0; have k1 := blk_cell hc2 1; have f1 := blk_frozen hc2 1; simp only [List.getElem?_toArray, List.getElem?_cons_zero, List.getElem?_cons_succ] at k1; have k2 := blk_cell hc2 2; have f2 := blk_frozen hc2 2; simp only [List.getElem?_toArray, List.getElem?_cons_zero, List.getElem?_cons_succ] at k2; have k3 := blk_cell hc2 3; have f3 := blk_frozen hc2 3; simp only [List.getElem?_toArray, List.getElem?_cons_zero, List.getElem?_cons_succ] at k3; have k4 := blk_cell hc2 4; have f4 := blk_frozen hc2 4; simp only [List.getElem?_toArray, List.getElem?_cons_zero, List.getElem?_cons_succ] at k4
  have hx1 : (x != 0) = true := by simpa using hx
  have hx2 : (x == 0) = false := by simpa using hx
  go_enter_d Try.func33, Try.ntmps33
  go_wp2
  go_end0
  exact ⟨rfl, rfl⟩
theorem clMessage_ok (g : Nat) (p : Addr) (u : FrameMode) (w : World) (hc : w.heap[g]? = some (.cells #[.int .i64 0] 28 (0, 0))) :
    CallsD Try.prog 33 #[.pointer (some ⟨g, 0, none⟩), .pointer (some p)] u w fun e u' w' =>
      u' = u ∧ (e = .returned (.tuple #[]) ∧ w' = w) := by
  have h1 := blk_cell hc 0
  simp only [List.getElem?_toArray, List.getElem?_cons_zero] at h1
  go_enter_d Try.func33, Try.ntmps33
  go_wp2
  go_end0
  exact ⟨rfl, rfl⟩

set_option maxHeartbeats 2000000 in
theorem doorMessage_bad (tmps : Array Value) (g2 g3 B : Nat) (h2 : tmps.getD 2 undef = .pointer (some ⟨g2, 0, none⟩)) (h3 : tmps.getD 3 undef = .pointer (some ⟨g3, 0, none⟩)) (x : Int) (z0 z1 z2 z3 z4 : Value) (w0 W : World)
    (hB : Below B w0 W) (hb : B ≤ W.heap.size) (hb2 : B ≤ g2) (hb3 : B ≤ g3) (H2 : W.heap[g2]? = some (.cells #[z0, z1, z2, z3, z4] 24 (0, 0))) (H3 : W.heap[g3]? = some (.cells #[.int .i64 x] 28 (0, 0))) (R : Ending → World → Prop)
    (hR : ∀ w', Below B w0 w' → R (.returned (.tuple #[.agg #[.int .i64 0, .int .i64 0, .int .i64 0, .string ⟨#[]⟩, .int .i64 0], .int .i64 220])) w') :
    Leaves Try.prog Try.f12 tmps R (dfs 33 g2 g3) (.panicking wbad) W := by
  have hne := blk_ne H2 H3 (by decide)
  refine leaves_cons (f := 24) (args := #[.pointer (some ⟨g3, 0, none⟩)]) (by simp) (by simp [go_sem]) ?_
  refine (caught_bad g3 x W H3).mono ?_
  rintro e u' w' ⟨rfl, rfl, o, rfl⟩
  have K3 := blk_set (blk_alloc H3 o) 0 (.int .i64 220)
  have K2 := blk_far (p := ⟨g3, 0, none⟩) (blk_alloc H2 o) hne (.int .i64 220)
  have hB1 : Below B w0 ((W.alloc o).setCell ⟨g3, 0, none⟩ (.int .i64 220)) := (hB.alloc hb o).setCell (p := ⟨g3, 0, none⟩) hb3 _
  simp only [Array.setIfInBounds, List.size_toArray, List.length_cons, List.length_nil, Nat.zero_add, Nat.lt_add_one, dite_true, List.set_toArray, List.set_cons_zero] at K3
  generalize (W.alloc o).setCell ⟨g3, 0, none⟩ (.int .i64 220) = W1 at K2 K3 hB1 ⊢
  refine leaves_cons (f := 33) (args := #[.pointer (some ⟨g3, 0, none⟩), .pointer (some ⟨g2, 0, none⟩)]) (by simp [settle]) (by simp [go_sem]) ?_
  refine (clMessage_bad g3 g2 220 _ z0 z1 z2 z3 z4 W1 (by decide) K3 K2).mono ?_
  rintro e u' w' ⟨rfl, rfl, rfl⟩
  have L2 := K2
  have L3 := K3
  have hB2 := hB1
  have L2 := blk_set L2 0 (.int .i64 0)
  have L3 := blk_far (p := ⟨g2, 0, none⟩) L3 (Ne.symm hne) (.int .i64 0)
  have hB2 := hB2.setCell (p := ⟨g2, 0, none⟩) hb2 (.int .i64 0)
  have L2 := blk_set L2 1 (.int .i64 0)
  have L3 := blk_far (p := ⟨g2, 1, none⟩) L3 (Ne.symm hne) (.int .i64 0)
  have hB2 := hB2.setCell (p := ⟨g2, 1, none⟩) hb2 (.int .i64 0)
  have L2 := blk_set L2 2 (.int .i64 0)
  have L3 := blk_far (p := ⟨g2, 2, none⟩) L3 (Ne.symm hne) (.int .i64 0)
  have hB2 := hB2.setCell (p := ⟨g2, 2, none⟩) hb2 (.int .i64 0)
  have L2 := blk_set L2 3 (.string ⟨#[]⟩)
  have L3 := blk_far (p := ⟨g2, 3, none⟩) L3 (Ne.symm hne) (.string ⟨#[]⟩)
  have hB2 := hB2.setCell (p := ⟨g2, 3, none⟩) hb2 (.string ⟨#[]⟩)
  have L2 := blk_set L2 4 (.int .i64 0)
  have L3 := blk_far (p := ⟨g2, 4, none⟩) L3 (Ne.symm hne) (.int .i64 0)
  have hB2 := hB2.setCell (p := ⟨g2, 4, none⟩) hb2 (.int .i64 0)
  refine ⟨.tuple #[.agg #[.int .i64 0, .int .i64 0, .int .i64 0, .string ⟨#[]⟩, .int .i64 0], .int .i64 220], ?_, hR _ hB2⟩
  have M2 : (((((W1.setCell ⟨g2, 0, none⟩ (.int .i64 0)).setCell ⟨g2, 1, none⟩ (.int .i64 0)).setCell ⟨g2, 2, none⟩ (.int .i64 0)).setCell ⟨g2, 3, none⟩ (.string ⟨#[]⟩)).setCell ⟨g2, 4, none⟩ (.int .i64 0)).heap[g2]? = some (.cells #[.int .i64 0, .int .i64 0, .int .i64 0, .string ⟨#[]⟩, .int .i64 0] 24 (0, 0)) := L2
  generalize (((((W1.setCell ⟨g2, 0, none⟩ (.int .i64 0)).setCell ⟨g2, 1, none⟩ (.int .i64 0)).setCell ⟨g2, 2, none⟩ (.int .i64 0)).setCell ⟨g2, 3, none⟩ (.string ⟨#[]⟩)).setCell ⟨g2, 4, none⟩ (.int .i64 0)) = W2 at M2 L3
  exact results_sc rfl tmps W2 ⟨g2, 0, none⟩ h2 _ (run_loadVar_row W2 g2 _ 24 #[.int .i64 0, .int .i64 0, .int .i64 0, .string ⟨#[]⟩, .int .i64 0] (0, 0) _ M2 Try.underlying24 rfl (by kernel_rfl)) ⟨g3, 0, none⟩ h3 (.int .i64 220) (load_errno L3)

def msgVals (kd : Int) (os : List Nat) (vs : List (Int ⊕ ByteArray)) : Array Value := #[.int .i64 kd, .int .i64 (getN os vs 1), .int .i64 (getN os vs 2), .string (getS os vs 3), .int .i64 (getN os vs 4)]
theorem put_msg (kd kd' : Int) (os : List Nat) (vs : List (Int ⊕ ByteArray)) (ho : msgOffs kd' = some os) (hk : vs.map isTx = os.map (· == 3)) : (List.zip os (vs.map fval)).foldl (fun c x => c.setIfInBounds x.1 x.2) #[.int .i64 kd, .int .i64 0, .int .i64 0, .string ⟨#[]⟩, .int .i64 0] = msgVals kd os vs := by
  rcases msgOffs_cases ho with hs | hs
  · subst hs
    obtain ⟨v0, v1, v2, v3, rfl⟩ := len4 (by simpa using congrArg List.length hk)
    simp at hk
    obtain ⟨h0, h1, h2, h3⟩ := hk
    obtain ⟨x0, rfl⟩ : ∃ n, v0 = .inl n := by have q := kinds_cons h0; rw [if_neg (by decide)] at q; exact q
    obtain ⟨x1, rfl⟩ : ∃ n, v1 = .inl n := by have q := kinds_cons h1; rw [if_neg (by decide)] at q; exact q
    obtain ⟨x2, rfl⟩ : ∃ s, v2 = .inr s := by have q := kinds_cons h2; rw [if_pos rfl] at q; exact q
    obtain ⟨x3, rfl⟩ : ∃ n, v3 = .inl n := by have q := kinds_cons h3; rw [if_neg (by decide)] at q; exact q
    rfl
  · subst hs
    obtain ⟨v0, v1, rfl⟩ := len2 (by simpa using congrArg List.length hk)
    simp at hk
    obtain ⟨h0, h1⟩ := hk
    obtain ⟨x0, rfl⟩ : ∃ n, v0 = .inl n := by have q := kinds_cons h0; rw [if_neg (by decide)] at q; exact q
    obtain ⟨x1, rfl⟩ : ∃ n, v1 = .inl n := by have q := kinds_cons h1; rw [if_neg (by decide)] at q; exact q
    rfl


set_option maxHeartbeats 8000000 in
set_option maxRecDepth 100000 in
theorem wReadMsg_bad (k : Nat) (A0 : Option Addr) (c0 : Nat) (l0 : List Int) (w : World) (hr0 : Kd.C (Kd.int .u8) w A0 l0.length l0) (hc0 : l0.length ≤ c0) (r1 : Int) (r2 : List Int) (r3 : Bool) (ht : code_TakeNum.f k l0 = some (r1, r2, r3)) (hle : ¬ (r3 = true ∧ r1 ≤ 1000)) :
    Calls Try.prog 12 #[.slice A0 l0.length c0] w fun e w' => e = .returned (.tuple #[.agg #[.int .i64 0, .int .i64 0, .int .i64 0, .string ⟨#[]⟩, .int .i64 0], .int .i64 220]) ∧ Below w.heap.size w w' := by
  have HB := Aside0.mk (Below.refl w.heap.size w)
  have HC0 := Aside0.mk hr0
  have HCL0 := Aside0.mk hc0
  clear hr0 hc0
  have hmf : ∀ (fn : Fn) (first cap : Array Value) (w : World), (Instr.makeFunc fn first cap).run Try.prog w = .ok (.func fn first cap) w := fun _ _ _ _ => rfl
  go_enter_defers Try.func12, Try.ntmps12
  go_wp2_with (first | ((with_reducible refine gate_dst (N := 2) rfl ?_); (try (refine gate_guard (by rfl) ?_; dsimp only)); refine box_event ?hg (N := 2) ?hd (cs := #[.int .i64 0, .int .i64 0, .int .i64 0, .string ⟨#[]⟩, .int .i64 0]) (t := 24) ?hr ?_; (case hd => rfl); (case hg => rfl); (case hr => first | (go_simp; done) | (go_simp; rfl)); intro g2 hg w1 hbox hb; have m0 := Aside0.mk (below_step (by repeat (first | (with_reducible first | exact HB.out | apply below_alloc | apply pw_below_drewN | apply below_drew1) | exact HB.out)) hb); have m1 := Aside0.mk hbox; have m2 := Aside0.mk ((by rw [hg]; exact (below_size (by repeat (first | (with_reducible first | exact HB.out | apply below_alloc | apply pw_below_drewN | apply below_drew1) | exact HB.out))) : w.heap.size ≤ g2)); clear HB ; have HB := m0; have B2 := m1; have G2 := m2; clear m0 m1 m2; clear hb hbox hg) | ((with_reducible refine gate_dst (N := 3) rfl ?_); (try (refine gate_guard (by rfl) ?_; dsimp only)); refine box_event ?hg (N := 3) ?hd (cs := #[.int .i64 0]) (t := 28) ?hr ?_; (case hd => rfl); (case hg => rfl); (case hr => first | (go_simp; done) | (go_simp; rfl)); intro g3 hg w2 hbox hb; have m0 := Aside0.mk (below_step (by repeat (first | (with_reducible first | exact HB.out | apply below_alloc | apply pw_below_drewN | apply below_drew1) | exact HB.out)) hb); have m1 := Aside0.mk hbox; have m2 := Aside0.mk ((by rw [hg]; exact (below_size (by repeat (first | (with_reducible first | exact HB.out | apply below_alloc | apply pw_below_drewN | apply below_drew1) | exact HB.out))) : w.heap.size ≤ g3)); have m3 := Aside0.mk (blk_below (g := g2) (o := (.cells #[.int .i64 0, .int .i64 0, .int .i64 0, .string ⟨#[]⟩, .int .i64 0] 24 (0, 0))) (by (with_reducible repeat (first | refine blk_drewN ?_ _ | refine blk_drew ?_ | refine blk_alloc ?_ _)); exact B2.out) hb); have m4 := Aside0.mk ((by rw [hg]; exact (blk_lt (g := g2) (o := (.cells #[.int .i64 0, .int .i64 0, .int .i64 0, .string ⟨#[]⟩, .int .i64 0] 24 (0, 0))) (by (with_reducible repeat (first | refine blk_drewN ?_ _ | refine blk_drew ?_ | refine blk_alloc ?_ _)); exact B2.out))) : g2 < g3); clear HB B2; have HB := m0; have B3 := m1; have G3 := m2; have B2 := m3; have Ng2g3 := m4; clear m0 m1 m2 m3 m4; clear hb hbox hg))
  refine (wkind_bad k A0 c0 l0 r1 r2 r3 _ (Kd.C_below HC0.out HB.out) HCL0.out ht hle).mono ?_
  rintro e w4 ⟨rfl, hb⟩
  have m0 := Aside0.mk (below_step (by repeat (first | (with_reducible first | exact HB.out | apply below_alloc | apply pw_below_drewN | apply below_drew1) | exact HB.out)) hb)
  have m1 := Aside0.mk (blk_below (g := g2) (o := (.cells #[.int .i64 0, .int .i64 0, .int .i64 0, .string ⟨#[]⟩, .int .i64 0] 24 (0, 0))) (by (with_reducible repeat (first | refine blk_drewN ?_ _ | refine blk_drew ?_ | refine blk_alloc ?_ _)); exact B2.out) hb)
  have m2 := Aside0.mk (blk_below (g := g3) (o := (.cells #[.int .i64 0] 28 (0, 0))) (by (with_reducible repeat (first | refine blk_drewN ?_ _ | refine blk_drew ?_ | refine blk_alloc ?_ _)); exact B3.out) hb)
  clear HB B2 B3
  have HB := m0
  have B2 := m1
  have B3 := m2
  clear m0 m1 m2
  refine doorMessage_bad _ g2 g3 w.heap.size rfl rfl 0 _ _ _ _ _ w _ HB.out (below_size HB.out) G2.out G3.out B2.out B3.out _ ?_
  intro w' hb
  exact ⟨rfl, hb⟩

set_option maxHeartbeats 8000000 in
set_option maxRecDepth 100000 in
theorem wReadMsg_not (k : Nat) (A0 : Option Addr) (c0 : Nat) (l0 : List Int) (w : World) (hr0 : Kd.C (Kd.int .u8) w A0 l0.length l0) (hc0 : l0.length ≤ c0) (r1 : Int) (r2 : List Int) (kd : Int) (ht : code_TakeNum.f k l0 = some (r1, r2, true)) (hle : r1 ≤ 1000) (hkd : wrap64 r1 = kd) (ho : msgOffs kd = none) :
    Calls Try.prog 12 #[.slice A0 l0.length c0] w fun e w' => e = .returned (.tuple #[.agg #[.int .i64 0, .int .i64 0, .int .i64 0, .string ⟨#[]⟩, .int .i64 0], .int .i64 220]) ∧ Below w.heap.size w w' := by
  have HB := Aside0.mk (Below.refl w.heap.size w)
  have HC0 := Aside0.mk hr0
  have HCL0 := Aside0.mk hc0
  clear hr0 hc0
  have HKD := Aside0.mk hkd
  clear hkd
  have hmf : ∀ (fn : Fn) (first cap : Array Value) (w : World), (Instr.makeFunc fn first cap).run Try.prog w = .ok (.func fn first cap) w := fun _ _ _ _ => rfl
  go_enter_defers Try.func12, Try.ntmps12
  go_wp2_with (first | ((with_reducible refine gate_dst (N := 2) rfl ?_); (try (refine gate_guard (by rfl) ?_; dsimp only)); refine box_event ?hg (N := 2) ?hd (cs := #[.int .i64 0, .int .i64 0, .int .i64 0, .string ⟨#[]⟩, .int .i64 0]) (t := 24) ?hr ?_; (case hd => rfl); (case hg => rfl); (case hr => first | (go_simp; done) | (go_simp; rfl)); intro g2 hg w1 hbox hb; have m0 := Aside0.mk (below_step (by repeat (first | (with_reducible first | exact HB.out | apply below_alloc | apply pw_below_drewN | apply below_drew1) | exact HB.out)) hb); have m1 := Aside0.mk hbox; have m2 := Aside0.mk ((by rw [hg]; exact (below_size (by repeat (first | (with_reducible first | exact HB.out | apply below_alloc | apply pw_below_drewN | apply below_drew1) | exact HB.out))) : w.heap.size ≤ g2)); clear HB ; have HB := m0; have B2 := m1; have G2 := m2; clear m0 m1 m2; clear hb hbox hg) | ((with_reducible refine gate_dst (N := 3) rfl ?_); (try (refine gate_guard (by rfl) ?_; dsimp only)); refine box_event ?hg (N := 3) ?hd (cs := #[.int .i64 0]) (t := 28) ?hr ?_; (case hd => rfl); (case hg => rfl); (case hr => first | (go_simp; done) | (go_simp; rfl)); intro g3 hg w2 hbox hb; have m0 := Aside0.mk (below_step (by repeat (first | (with_reducible first | exact HB.out | apply below_alloc | apply pw_below_drewN | apply below_drew1) | exact HB.out)) hb); have m1 := Aside0.mk hbox; have m2 := Aside0.mk ((by rw [hg]; exact (below_size (by repeat (first | (with_reducible first | exact HB.out | apply below_alloc | apply pw_below_drewN | apply below_drew1) | exact HB.out))) : w.heap.size ≤ g3)); have m3 := Aside0.mk (blk_below (g := g2) (o := (.cells #[.int .i64 0, .int .i64 0, .int .i64 0, .string ⟨#[]⟩, .int .i64 0] 24 (0, 0))) (by (with_reducible repeat (first | refine blk_drewN ?_ _ | refine blk_drew ?_ | refine blk_alloc ?_ _)); exact B2.out) hb); have m4 := Aside0.mk ((by rw [hg]; exact (blk_lt (g := g2) (o := (.cells #[.int .i64 0, .int .i64 0, .int .i64 0, .string ⟨#[]⟩, .int .i64 0] 24 (0, 0))) (by (with_reducible repeat (first | refine blk_drewN ?_ _ | refine blk_drew ?_ | refine blk_alloc ?_ _)); exact B2.out))) : g2 < g3); clear HB B2; have HB := m0; have B3 := m1; have G3 := m2; have B2 := m3; have Ng2g3 := m4; clear m0 m1 m2 m3 m4; clear hb hbox hg))
  refine (wkind_ok k A0 c0 l0 r1 r2 _ (Kd.C_below HC0.out HB.out) HCL0.out ht hle).mono ?_
  rintro e w4 ⟨A, c, rfl, hR, hcl, hC, hb⟩
  have HNE := Aside0.mk (row_ne hR g2 (blk_lt B2.out))
  have HCL := Aside0.mk hcl
  have HC := Aside0.mk hC
  clear hR hcl hC HC0 HCL0 ht hle
  rw [HKD.out]
  have m0 := Aside0.mk (below_step (by repeat (first | (with_reducible first | exact HB.out | apply below_alloc | apply pw_below_drewN | apply below_drew1) | exact HB.out)) hb)
  have m1 := Aside0.mk (blk_below (g := g2) (o := (.cells #[.int .i64 0, .int .i64 0, .int .i64 0, .string ⟨#[]⟩, .int .i64 0] 24 (0, 0))) (by (with_reducible repeat (first | refine blk_drewN ?_ _ | refine blk_drew ?_ | refine blk_alloc ?_ _)); exact B2.out) hb)
  have m2 := Aside0.mk (blk_below (g := g3) (o := (.cells #[.int .i64 0] 28 (0, 0))) (by (with_reducible repeat (first | refine blk_drewN ?_ _ | refine blk_drew ?_ | refine blk_alloc ?_ _)); exact B3.out) hb)
  clear HB B2 B3
  have HB := m0
  have B2 := m1
  have B3 := m2
  clear m0 m1 m2
  have hcB20 := blk_cell B2.out 0
  simp only [List.getElem?_toArray, List.getElem?_cons_zero, List.getElem?_cons_succ] at hcB20
  have hfB20 := blk_frozen B2.out 0
  go_wp2_with (fail)
  have m2 := blk_put (cs' := #[.int .i64 kd, .int .i64 0, .int .i64 0, .string ⟨#[]⟩, .int .i64 0]) B2.out 0 (.int .i64 kd) rfl
  have m3 := blk_far (p := ⟨g2, 0, none⟩) B3.out (Ne.symm (Nat.ne_of_lt Ng2g3.out)) (.int .i64 kd)
  have m0 := Below.setCell (p := ⟨g2, 0, none⟩) HB.out G2.out (.int .i64 kd)
  have mC := Kd.C_keep 0 HC.out ((KeepBut.refl _ g2 none).set_ 0 (.int .i64 kd)) (fun ad e _ => HNE.out ad e)
  clear HB B2 B3 HC hcB20 hfB20
  generalize w4.setCell ⟨g2, 0, none⟩ (.int .i64 kd) = w5 at m0 m2 m3 mC ⊢
  have hcell : w5.cell? ⟨g2, 0, none⟩ = some (.int .i64 kd) := by
    have q := blk_cell m2 0
    simpa using q
  have hnn := fun (w : World) => run_neq_slice_nil_any (P := Try.prog) w 52 20 none 0 0 0 0 Try.underlying52
  refine (wpa_not kd ho g2 w5 hcell).mono ?_
  rintro e w6 ⟨rfl, rfl⟩
  clear hcell
  go_wp2_with (first | ((go_at_call 27); (with_reducible refine (must_bad _).mono ?_); rintro e wm ⟨rfl, rfl⟩))
  refine doorMessage_bad _ g2 g3 w.heap.size rfl rfl 0 _ _ _ _ _ w _ m0 (below_size m0) G2.out G3.out m2 m3 _ ?_
  intro w' hb
  exact ⟨rfl, hb⟩

set_option maxHeartbeats 8000000 in
set_option maxRecDepth 100000 in
theorem wReadMsg_some (k : Nat) (A0 : Option Addr) (c0 : Nat) (l0 : List Int) (w : World) (hr0 : Kd.C (Kd.int .u8) w A0 l0.length l0) (hc0 : l0.length ≤ c0) (r1 : Int) (r2 : List Int) (kd : Int) (ht : code_TakeNum.f k l0 = some (r1, r2, true)) (hle : r1 ≤ 1000) (hkd : wrap64 r1 = kd) (os : List Nat) (ho : msgOffs kd = some os) (RES : Option (List (Int ⊕ ByteArray))) (hrd : wireRd k (os.map (· == 3)) r2 [] = some RES) :
    Calls Try.prog 12 #[.slice A0 l0.length c0] w fun e w' => ((∃ vs, RES = some vs ∧ e = .returned (.tuple #[.agg (msgVals kd os vs), .int .i64 0])) ∨ (RES = none ∧ e = .returned (.tuple #[.agg #[.int .i64 0, .int .i64 0, .int .i64 0, .string ⟨#[]⟩, .int .i64 0], .int .i64 220]))) ∧ Below w.heap.size w w' := by
  have HB := Aside0.mk (Below.refl w.heap.size w)
  have HC0 := Aside0.mk hr0
  have HCL0 := Aside0.mk hc0
  clear hr0 hc0
  have HKD := Aside0.mk hkd
  have HRD := Aside0.mk hrd
  have HOS := Aside0.mk ho
  clear hkd hrd ho
  have hmf : ∀ (fn : Fn) (first cap : Array Value) (w : World), (Instr.makeFunc fn first cap).run Try.prog w = .ok (.func fn first cap) w := fun _ _ _ _ => rfl
  go_enter_defers Try.func12, Try.ntmps12
  go_wp2_with (first | ((with_reducible refine gate_dst (N := 2) rfl ?_); (try (refine gate_guard (by rfl) ?_; dsimp only)); refine box_event ?hg (N := 2) ?hd (cs := #[.int .i64 0, .int .i64 0, .int .i64 0, .string ⟨#[]⟩, .int .i64 0]) (t := 24) ?hr ?_; (case hd => rfl); (case hg => rfl); (case hr => first | (go_simp; done) | (go_simp; rfl)); intro g2 hg w1 hbox hb; have m0 := Aside0.mk (below_step (by repeat (first | (with_reducible first | exact HB.out | apply below_alloc | apply pw_below_drewN | apply below_drew1) | exact HB.out)) hb); have m1 := Aside0.mk hbox; have m2 := Aside0.mk ((by rw [hg]; exact (below_size (by repeat (first | (with_reducible first | exact HB.out | apply below_alloc | apply pw_below_drewN | apply below_drew1) | exact HB.out))) : w.heap.size ≤ g2)); clear HB ; have HB := m0; have B2 := m1; have G2 := m2; clear m0 m1 m2; clear hb hbox hg) | ((with_reducible refine gate_dst (N := 3) rfl ?_); (try (refine gate_guard (by rfl) ?_; dsimp only)); refine box_event ?hg (N := 3) ?hd (cs := #[.int .i64 0]) (t := 28) ?hr ?_; (case hd => rfl); (case hg => rfl); (case hr => first | (go_simp; done) | (go_simp; rfl)); intro g3 hg w2 hbox hb; have m0 := Aside0.mk (below_step (by repeat (first | (with_reducible first | exact HB.out | apply below_alloc | apply pw_below_drewN | apply below_drew1) | exact HB.out)) hb); have m1 := Aside0.mk hbox; have m2 := Aside0.mk ((by rw [hg]; exact (below_size (by repeat (first | (with_reducible first | exact HB.out | apply below_alloc | apply pw_below_drewN | apply below_drew1) | exact HB.out))) : w.heap.size ≤ g3)); have m3 := Aside0.mk (blk_below (g := g2) (o := (.cells #[.int .i64 0, .int .i64 0, .int .i64 0, .string ⟨#[]⟩, .int .i64 0] 24 (0, 0))) (by (with_reducible repeat (first | refine blk_drewN ?_ _ | refine blk_drew ?_ | refine blk_alloc ?_ _)); exact B2.out) hb); have m4 := Aside0.mk ((by rw [hg]; exact (blk_lt (g := g2) (o := (.cells #[.int .i64 0, .int .i64 0, .int .i64 0, .string ⟨#[]⟩, .int .i64 0] 24 (0, 0))) (by (with_reducible repeat (first | refine blk_drewN ?_ _ | refine blk_drew ?_ | refine blk_alloc ?_ _)); exact B2.out))) : g2 < g3); clear HB B2; have HB := m0; have B3 := m1; have G3 := m2; have B2 := m3; have Ng2g3 := m4; clear m0 m1 m2 m3 m4; clear hb hbox hg))
  refine (wkind_ok k A0 c0 l0 r1 r2 _ (Kd.C_below HC0.out HB.out) HCL0.out ht hle).mono ?_
  rintro e w4 ⟨A, c, rfl, hR, hcl, hC, hb⟩
  have HNE := Aside0.mk (row_ne hR g2 (blk_lt B2.out))
  have HCL := Aside0.mk hcl
  have HC := Aside0.mk hC
  clear hR hcl hC HC0 HCL0 ht hle
  rw [HKD.out]
  have m0 := Aside0.mk (below_step (by repeat (first | (with_reducible first | exact HB.out | apply below_alloc | apply pw_below_drewN | apply below_drew1) | exact HB.out)) hb)
  have m1 := Aside0.mk (blk_below (g := g2) (o := (.cells #[.int .i64 0, .int .i64 0, .int .i64 0, .string ⟨#[]⟩, .int .i64 0] 24 (0, 0))) (by (with_reducible repeat (first | refine blk_drewN ?_ _ | refine blk_drew ?_ | refine blk_alloc ?_ _)); exact B2.out) hb)
  have m2 := Aside0.mk (blk_below (g := g3) (o := (.cells #[.int .i64 0] 28 (0, 0))) (by (with_reducible repeat (first | refine blk_drewN ?_ _ | refine blk_drew ?_ | refine blk_alloc ?_ _)); exact B3.out) hb)
  clear HB B2 B3
  have HB := m0
  have B2 := m1
  have B3 := m2
  clear m0 m1 m2
  have hcB20 := blk_cell B2.out 0
  simp only [List.getElem?_toArray, List.getElem?_cons_zero, List.getElem?_cons_succ] at hcB20
  have hfB20 := blk_frozen B2.out 0
  go_wp2_with (fail)
  have m2 := blk_put (cs' := #[.int .i64 kd, .int .i64 0, .int .i64 0, .string ⟨#[]⟩, .int .i64 0]) B2.out 0 (.int .i64 kd) rfl
  have m3 := blk_far (p := ⟨g2, 0, none⟩) B3.out (Ne.symm (Nat.ne_of_lt Ng2g3.out)) (.int .i64 kd)
  have m0 := Below.setCell (p := ⟨g2, 0, none⟩) HB.out G2.out (.int .i64 kd)
  have mC := Kd.C_keep 0 HC.out ((KeepBut.refl _ g2 none).set_ 0 (.int .i64 kd)) (fun ad e _ => HNE.out ad e)
  clear HB B2 B3 HC hcB20 hfB20
  generalize w4.setCell ⟨g2, 0, none⟩ (.int .i64 kd) = w5 at m0 m2 m3 mC ⊢
  have hcell : w5.cell? ⟨g2, 0, none⟩ = some (.int .i64 kd) := by
    have q := blk_cell m2 0
    simpa using q
  refine (wpa_some kd os HOS.out g2 w5 hcell).mono ?_
  rintro e w6 ⟨L, rfl, hb, hL, hlb⟩
  have hnn := fun (w : World) => run_neq_slice_nil_any (P := Try.prog) w 52 20 (some ⟨L, 0, none⟩) os.length os.length 0 0 Try.underlying52
  have HB := Aside0.mk (below_step m0 hb)
  have B2 := Aside0.mk (blk_below m2 hb)
  have B3 := Aside0.mk (blk_below m3 hb)
  have BL := Aside0.mk hlb
  have HC := Aside0.mk (Kd.C_below mC hb)
  clear m0 m2 m3 mC hb hL hlb hcell
  go_wp2_with (first | ((go_at_call 27); (with_reducible refine (must_ok _).mono ?_); rintro e wm ⟨rfl, rfl⟩))
  have hfl : (fps 3 g2 os).length = os.length := by simp [fps]
  have hmem : ∀ f ∈ fps 3 g2 os, ∃ o, o < 5 ∧ f.2 = ⟨g2, o, none⟩ := by
    intro f hf
    simp only [fps, List.mem_map] at hf
    obtain ⟨o, ho, rfl⟩ := hf
    refine ⟨o, ?_, rfl⟩
    rcases msgOffs_cases HOS.out with rfl | rfl <;> (simp at ho; omega)
  have hwr := wread k L c A (fps 3 g2 os) r2 RES _ BL.out (fun f hf => by
    obtain ⟨o, h1, h2⟩ := hmem f hf
    rw [h2]
    exact ⟨⟨_, _, B2.out, by decide, by simpa using h1⟩, rfl⟩) HC.out HCL.out (fun ad e _ f hf => by
    obtain ⟨o, h1, h2⟩ := hmem f hf
    rw [h2]
    exact HNE.out ad e) (by rw [hfl]; rcases msgOffs_cases HOS.out with rfl | rfl <;> simp) (by rw [fps_fst]; exact HRD.out)
  rw [hfl] at hwr
  refine hwr.mono ?_
  clear hwr
  rintro e w8 ⟨vs, hcase, hb⟩
  obtain ⟨hB8, hfar, hsz⟩ := read_after HB.out (below_size HB.out) hb (fun f hf => by
    obtain ⟨o, h1, h2⟩ := hmem f hf
    rw [h2]
    exact ⟨G2.out, rfl⟩)
  have b3 := hfar g3 _ B3.out (fun f hf => by
    obtain ⟨o, h1, h2⟩ := hmem f hf
    rw [h2]
    exact Nat.ne_of_lt Ng2g3.out)
  rcases hcase with ⟨hx, rfl, hvl⟩ | ⟨hx, rfl⟩
  rotate_left
  · obtain ⟨cs', b2, hs2⟩ := hsz g2 _ _ B2.out
    obtain ⟨z0, z1, z2, z3, z4, rfl⟩ := arr5 hs2
    refine doorMessage_bad _ g2 g3 w.heap.size rfl rfl 0 z0 z1 z2 z3 z4 w w8 hB8 (below_size hB8) G2.out G3.out b2 b3 _ ?_
    intro w' hb
    exact ⟨.inr ⟨hx, rfl⟩, hb⟩
  · subst hx
    have hk : vs.map isTx = os.map (· == 3) := by
      obtain ⟨us, e1, e2⟩ := wireRd_kinds k _ _ _ _ HRD.out
      rw [List.nil_append] at e1
      rw [e1]
      exact e2
    have q := wput_cells (List.zip os (vs.map fval)) B2.out
    rw [← puts_fps 3] at q
    have b2 := (hb.block g2 (blk_lt B2.out)).trans q
    clear q
    rw [put_msg kd kd os vs HOS.out hk] at b2
    clear HB B2 B3 BL HC HCL hb hfar hsz hk hvl hmem hfl HRD HNE
    unfold msgVals at b2
    obtain ⟨x1, hx1⟩ : ∃ x, getN os vs 1 = x := ⟨_, rfl⟩
    obtain ⟨x2, hx2⟩ : ∃ x, getN os vs 2 = x := ⟨_, rfl⟩
    obtain ⟨x3, hx3⟩ : ∃ x, getS os vs 3 = x := ⟨_, rfl⟩
    obtain ⟨x4, hx4⟩ : ∃ x, getN os vs 4 = x := ⟨_, rfl⟩
    simp only [hx1, hx2, hx3, hx4] at b2
    have HX1 := Aside0.mk hx1
    have HX2 := Aside0.mk hx2
    have HX3 := Aside0.mk hx3
    have HX4 := Aside0.mk hx4
    clear hx1 hx2 hx3 hx4
    have HB := Aside0.mk hB8
    have B2 := Aside0.mk b2
    have B3 := Aside0.mk b3
    have N23 := Aside0.mk (Nat.ne_of_lt Ng2g3.out)
    clear hB8 b2 b3
    have hcB20 := blk_cell B2.out 0
    simp only [List.getElem?_toArray, List.getElem?_cons_zero, List.getElem?_cons_succ] at hcB20
    have hfB20 := blk_frozen B2.out 0
    have hcB21 := blk_cell B2.out 1
    simp only [List.getElem?_toArray, List.getElem?_cons_zero, List.getElem?_cons_succ] at hcB21
    have hfB21 := blk_frozen B2.out 1
    have hcB22 := blk_cell B2.out 2
    simp only [List.getElem?_toArray, List.getElem?_cons_zero, List.getElem?_cons_succ] at hcB22
    have hfB22 := blk_frozen B2.out 2
    have hcB23 := blk_cell B2.out 3
    simp only [List.getElem?_toArray, List.getElem?_cons_zero, List.getElem?_cons_succ] at hcB23
    have hfB23 := blk_frozen B2.out 3
    have hcB24 := blk_cell B2.out 4
    simp only [List.getElem?_toArray, List.getElem?_cons_zero, List.getElem?_cons_succ] at hcB24
    have hfB24 := blk_frozen B2.out 4
    have hc3 := blk_cell B3.out 0
    have hf3 := blk_frozen B3.out 0
    simp only [List.getElem?_toArray, List.getElem?_cons_zero, List.getElem?_cons_succ] at hc3
    have hne1 : ¬ g2 = g3 := N23.out
    have hne2 : ¬ g3 = g2 := fun e => N23.out e.symm
    go_wp2_with (fail)
    have j2 := blk_far (p := ⟨g3, 0, none⟩) (blk_put (cs' := #[.int .i64 kd, .int .i64 x1, .int .i64 x2, .string x3, .int .i64 x4]) (blk_put (cs' := #[.int .i64 kd, .int .i64 x1, .int .i64 x2, .string x3, .int .i64 x4]) (blk_put (cs' := #[.int .i64 kd, .int .i64 x1, .int .i64 x2, .string x3, .int .i64 x4]) (blk_put (cs' := #[.int .i64 kd, .int .i64 x1, .int .i64 x2, .string x3, .int .i64 x4]) (blk_put (cs' := #[.int .i64 kd, .int .i64 x1, .int .i64 x2, .string x3, .int .i64 x4]) B2.out 0 (.int .i64 kd) rfl) 1 (.int .i64 x1) rfl) 2 (.int .i64 x2) rfl) 3 (.string x3) rfl) 4 (.int .i64 x4) rfl) N23.out (.int .i64 0)
    have j3 := blk_put (cs' := #[.int .i64 0]) (blk_far (p := ⟨g2, 4, none⟩) (blk_far (p := ⟨g2, 3, none⟩) (blk_far (p := ⟨g2, 2, none⟩) (blk_far (p := ⟨g2, 1, none⟩) (blk_far (p := ⟨g2, 0, none⟩) B3.out (Ne.symm N23.out) (.int .i64 kd)) (Ne.symm N23.out) (.int .i64 x1)) (Ne.symm N23.out) (.int .i64 x2)) (Ne.symm N23.out) (.string x3)) (Ne.symm N23.out) (.int .i64 x4)) 0 (.int .i64 0) rfl
    have jB := (((((HB.out.setCell (p := ⟨g2, 0, none⟩) G2.out (.int .i64 kd)).setCell (p := ⟨g2, 1, none⟩) G2.out (.int .i64 x1)).setCell (p := ⟨g2, 2, none⟩) G2.out (.int .i64 x2)).setCell (p := ⟨g2, 3, none⟩) G2.out (.string x3)).setCell (p := ⟨g2, 4, none⟩) G2.out (.int .i64 x4)).setCell (p := ⟨g3, 0, none⟩) G3.out (.int .i64 0)
    refine doorB_ok 33 clMessage_ok (fun _ _ _ => by simp [go_sem]) Try.f12 _ g2 g3 _ j3 _ (.tuple #[.agg #[.int .i64 kd, .int .i64 x1, .int .i64 x2, .string x3, .int .i64 x4], .int .i64 0]) ?_ ⟨.inl ⟨vs, rfl, by unfold msgVals; simp only [HX1.out, HX2.out, HX3.out, HX4.out]⟩, jB⟩
    exact results_sc rfl _ _ ⟨g2, 0, none⟩ rfl _ (run_loadVar_row _ g2 _ 24 #[.int .i64 kd, .int .i64 x1, .int .i64 x2, .string x3, .int .i64 x4] (0, 0) _ j2 Try.underlying24 rfl (by kernel_rfl)) ⟨g3, 0, none⟩ rfl (.int .i64 0) (load_errno j3)

def wire_ReadMsg.f (k : Nat) (l0 : List Int) : Option (Int × Int × Int × ByteArray × Int × Int) :=
  (code_TakeNum.f k l0).bind fun r => if r.2.2 = true ∧ r.1 ≤ 1000 then (match msgOffs (wrap64 r.1) with
    | none => some (0, 0, 0, ⟨#[]⟩, 0, 220)
    | some os => (wireRd k (os.map (· == 3)) r.2.1 []).bind fun x => match x with
      | none => some (0, 0, 0, ⟨#[]⟩, 0, 220)
      | some vs => some (wrap64 r.1, getN os vs 1, getN os vs 2, getS os vs 3, getN os vs 4, 0)) else some (0, 0, 0, ⟨#[]⟩, 0, 220)
theorem wire_ReadMsg.mono : ∀ l0 k, LeO (wire_ReadMsg.f k l0) (wire_ReadMsg.f (k + 1) l0) := by
  intro l0 k
  unfold wire_ReadMsg.f
  refine LeO.bind (code_TakeNum.mono _ k) (fun r => LeO.ite ?_ (LeO.refl _))
  cases msgOffs (wrap64 r.1) with
  | none => exact LeO.refl _
  | some os => exact LeO.bind (wireRd_mono _ _ _ k) (fun _ => LeO.refl _)
theorem wire_ReadMsg.calls (k : Nat) (A0 : Option Addr) (c0 : Nat) (l0 : List Int) (r1 : Int) (r2 : Int) (r3 : Int) (r4 : ByteArray) (r5 : Int) (r6 : Int) (w : World) (hr0 : Kd.C (Kd.int .u8) w A0 l0.length l0) (hc0 : l0.length ≤ c0) (h : wire_ReadMsg.f k l0 = some (r1, r2, r3, r4, r5, r6)) :
    Calls Try.prog 12 #[.slice A0 l0.length c0] w fun e w' => e = .returned (.tuple #[.agg #[.int .i64 r1, .int .i64 r2, .int .i64 r3, .string r4, .int .i64 r5], .int .i64 r6]) ∧ Below w.heap.size w w' := by
  unfold wire_ReadMsg.f at h
  obtain ⟨⟨t1, t2, t3⟩, ht, h⟩ := Option.bind_eq_some_iff.mp h
  dsimp only at h
  by_cases hle : t3 = true ∧ t1 ≤ 1000
  · rw [if_pos hle] at h
    obtain ⟨rfl, hle⟩ := hle
    obtain ⟨kd, hkd⟩ : ∃ kd, wrap64 t1 = kd := ⟨_, rfl⟩
    rw [hkd] at h
    obtain ⟨oo, ho⟩ : ∃ oo, msgOffs kd = oo := ⟨_, rfl⟩
    rw [ho] at h
    cases oo with
    | none =>
      simp only [Option.some.injEq, Prod.mk.injEq] at h
      obtain ⟨rfl, rfl, rfl, rfl, rfl, rfl⟩ := h
      exact wReadMsg_not k A0 c0 l0 w hr0 hc0 t1 t2 kd ht hle hkd ho
    | some os =>
      dsimp only at h
      obtain ⟨x, hx, h⟩ := Option.bind_eq_some_iff.mp h
      refine (wReadMsg_some k A0 c0 l0 w hr0 hc0 t1 t2 kd ht hle hkd os ho x hx).mono ?_
      rintro e w' ⟨⟨vs, rfl, rfl⟩ | ⟨rfl, rfl⟩, hb⟩
      · simp only [Option.some.injEq, Prod.mk.injEq] at h
        obtain ⟨rfl, rfl, rfl, rfl, rfl, rfl⟩ := h
        exact ⟨rfl, hb⟩
      · simp only [Option.some.injEq, Prod.mk.injEq] at h
        obtain ⟨rfl, rfl, rfl, rfl, rfl, rfl⟩ := h
        exact ⟨rfl, hb⟩
  · rw [if_neg hle] at h
    simp only [Option.some.injEq, Prod.mk.injEq] at h
    obtain ⟨rfl, rfl, rfl, rfl, rfl, rfl⟩ := h
    exact wReadMsg_bad k A0 c0 l0 w hr0 hc0 t1 t2 t3 ht hle

end Go.Proofs.Ytklnnmgfoebbhaa.PWireMsgs
