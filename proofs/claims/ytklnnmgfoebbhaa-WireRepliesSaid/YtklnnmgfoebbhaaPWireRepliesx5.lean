-- Written by wip/xprint of this repo (our own program) out of the translation; what is marked BY HAND is ours. Not trusted: Lean checks it.
import Derived.Test.YtklnnmgfoebbhaaPWireRepliesx0
import Derived.Test.YtklnnmgfoebbhaaPWireRepliesx3
import Derived.Test.YtklnnmgfoebbhaaPWireRepliesx4
namespace Go.Proofs.Ytklnnmgfoebbhaa.PWireReplies
open Go.RowKit Go.Proofs.YtklnnmgfoebbhaaW.PrintWords Go.Proofs.YtklnnmgfoebbhaaW.PrintLast Go.Proofs.YtklnnmgfoebbhaaW.PrintMore
attribute [local go_sem] max2_int min2_int max_two min_two max_three min_three max_four min_four   -- for this text's walks alone
set_option linter.unusedVariables false
set_option linter.unusedSimpArgs false

/-! ### ours: wireF -/

set_option maxHeartbeats 2000000 in
theorem wfi_1 (g : Nat) (w : World) (hk : w.cell? ⟨g, 0, none⟩ = some (.int .i64 1)) :
    Calls Try.prog 39 #[.pointer (some ⟨g, 0, none⟩)] w fun e w' => ∃ L : Nat, e = .returned (.slice (some ⟨L, 0, none⟩) 2 2) ∧ Below w.heap.size w w' ∧ w.heap.size ≤ L ∧ w'.heap[L]? = some (lob (fps 1 g [1, 3])) := by
  go_enter Try.func39, Try.ntmps39
  go_wp2
  go_region
  all_goals
    dsimp only [Exit.then]
    go_wp2
    go_ret
    exact ⟨w.heap.size, rfl, (Below.drew ((Below.refl w.heap.size w).alloc (Nat.le_refl _) _)), Nat.le_refl _, blk_drew (blk_new w _)⟩

set_option maxHeartbeats 2000000 in
theorem wfi_2 (g : Nat) (w : World) (hk : w.cell? ⟨g, 0, none⟩ = some (.int .i64 2)) :
    Calls Try.prog 39 #[.pointer (some ⟨g, 0, none⟩)] w fun e w' => ∃ L : Nat, e = .returned (.slice (some ⟨L, 0, none⟩) 2 2) ∧ Below w.heap.size w w' ∧ w.heap.size ≤ L ∧ w'.heap[L]? = some (lob (fps 1 g [1, 3])) := by
  go_enter Try.func39, Try.ntmps39
  go_wp2
  go_region
  all_goals
    dsimp only [Exit.then]
    go_wp2
    go_ret
    exact ⟨w.heap.size, rfl, (Below.drew ((Below.refl w.heap.size w).alloc (Nat.le_refl _) _)), Nat.le_refl _, blk_drew (blk_new w _)⟩

set_option maxHeartbeats 2000000 in
theorem wfi_8 (g : Nat) (w : World) (hk : w.cell? ⟨g, 0, none⟩ = some (.int .i64 8)) :
    Calls Try.prog 39 #[.pointer (some ⟨g, 0, none⟩)] w fun e w' => ∃ L : Nat, e = .returned (.slice (some ⟨L, 0, none⟩) 2 2) ∧ Below w.heap.size w w' ∧ w.heap.size ≤ L ∧ w'.heap[L]? = some (lob (fps 1 g [1, 3])) := by
  go_enter Try.func39, Try.ntmps39
  go_wp2
  go_region
  all_goals
    dsimp only [Exit.then]
    go_wp2
    go_ret
    exact ⟨w.heap.size, rfl, (Below.drew ((Below.refl w.heap.size w).alloc (Nat.le_refl _) _)), Nat.le_refl _, blk_drew (blk_new w _)⟩

set_option maxHeartbeats 2000000 in
theorem wfi_3 (g : Nat) (w : World) (hk : w.cell? ⟨g, 0, none⟩ = some (.int .i64 3)) :
    Calls Try.prog 39 #[.pointer (some ⟨g, 0, none⟩)] w fun e w' => ∃ L : Nat, e = .returned (.slice (some ⟨L, 0, none⟩) 4 4) ∧ Below w.heap.size w w' ∧ w.heap.size ≤ L ∧ w'.heap[L]? = some (lob (fps 1 g [1, 2, 3, 4])) := by
  go_enter Try.func39, Try.ntmps39
  go_wp2
  go_region
  all_goals
    dsimp only [Exit.then]
    go_wp2
    go_ret
    exact ⟨w.heap.size, rfl, (Below.drew ((Below.refl w.heap.size w).alloc (Nat.le_refl _) _)), Nat.le_refl _, blk_drew (blk_new w _)⟩

set_option maxHeartbeats 2000000 in
theorem wfi_4 (g : Nat) (w : World) (hk : w.cell? ⟨g, 0, none⟩ = some (.int .i64 4)) :
    Calls Try.prog 39 #[.pointer (some ⟨g, 0, none⟩)] w fun e w' => ∃ L : Nat, e = .returned (.slice (some ⟨L, 0, none⟩) 2 2) ∧ Below w.heap.size w w' ∧ w.heap.size ≤ L ∧ w'.heap[L]? = some (lob (fps 1 g [1, 2])) := by
  go_enter Try.func39, Try.ntmps39
  go_wp2
  go_region
  all_goals
    dsimp only [Exit.then]
    go_wp2
    go_ret
    exact ⟨w.heap.size, rfl, (Below.drew ((Below.refl w.heap.size w).alloc (Nat.le_refl _) _)), Nat.le_refl _, blk_drew (blk_new w _)⟩

set_option maxHeartbeats 2000000 in
theorem wfi_5 (g : Nat) (w : World) (hk : w.cell? ⟨g, 0, none⟩ = some (.int .i64 5)) :
    Calls Try.prog 39 #[.pointer (some ⟨g, 0, none⟩)] w fun e w' => ∃ L : Nat, e = .returned (.slice (some ⟨L, 0, none⟩) 2 2) ∧ Below w.heap.size w w' ∧ w.heap.size ≤ L ∧ w'.heap[L]? = some (lob (fps 1 g [1, 2])) := by
  go_enter Try.func39, Try.ntmps39
  go_wp2
  go_region
  all_goals
    dsimp only [Exit.then]
    go_wp2
    go_ret
    exact ⟨w.heap.size, rfl, (Below.drew ((Below.refl w.heap.size w).alloc (Nat.le_refl _) _)), Nat.le_refl _, blk_drew (blk_new w _)⟩

set_option maxHeartbeats 2000000 in
theorem wfi_6 (g : Nat) (w : World) (hk : w.cell? ⟨g, 0, none⟩ = some (.int .i64 6)) :
    Calls Try.prog 39 #[.pointer (some ⟨g, 0, none⟩)] w fun e w' => ∃ L : Nat, e = .returned (.slice (some ⟨L, 0, none⟩) 1 1) ∧ Below w.heap.size w w' ∧ w.heap.size ≤ L ∧ w'.heap[L]? = some (lob (fps 1 g [1])) := by
  go_enter Try.func39, Try.ntmps39
  go_wp2
  go_ret
  exact ⟨w.heap.size, rfl, ((Below.refl w.heap.size w).alloc (Nat.le_refl _) _), Nat.le_refl _, blk_new w _⟩

set_option maxHeartbeats 2000000 in
theorem wfi_12 (g : Nat) (w : World) (hk : w.cell? ⟨g, 0, none⟩ = some (.int .i64 12)) :
    Calls Try.prog 39 #[.pointer (some ⟨g, 0, none⟩)] w fun e w' => ∃ L : Nat, e = .returned (.slice (some ⟨L, 0, none⟩) 1 1) ∧ Below w.heap.size w w' ∧ w.heap.size ≤ L ∧ w'.heap[L]? = some (lob (fps 1 g [1])) := by
  go_enter Try.func39, Try.ntmps39
  go_wp2
  go_ret
  exact ⟨w.heap.size, rfl, ((Below.refl w.heap.size w).alloc (Nat.le_refl _) _), Nat.le_refl _, blk_new w _⟩

set_option maxHeartbeats 2000000 in
theorem wfi_7 (g : Nat) (w : World) (hk : w.cell? ⟨g, 0, none⟩ = some (.int .i64 7)) :
    Calls Try.prog 39 #[.pointer (some ⟨g, 0, none⟩)] w fun e w' => ∃ L : Nat, e = .returned (.slice (some ⟨L, 0, none⟩) 1 1) ∧ Below w.heap.size w w' ∧ w.heap.size ≤ L ∧ w'.heap[L]? = some (lob (fps 1 g [3])) := by
  go_enter Try.func39, Try.ntmps39
  go_wp2
  go_ret
  exact ⟨w.heap.size, rfl, ((Below.refl w.heap.size w).alloc (Nat.le_refl _) _), Nat.le_refl _, blk_new w _⟩

set_option maxHeartbeats 2000000 in
theorem wfi_9 (g : Nat) (w : World) (hk : w.cell? ⟨g, 0, none⟩ = some (.int .i64 9)) :
    Calls Try.prog 39 #[.pointer (some ⟨g, 0, none⟩)] w fun e w' => ∃ L : Nat, e = .returned (.slice (some ⟨L, 0, none⟩) 3 3) ∧ Below w.heap.size w w' ∧ w.heap.size ≤ L ∧ w'.heap[L]? = some (lob (fps 1 g [1, 5, 3])) := by
  go_enter Try.func39, Try.ntmps39
  go_wp2
  go_region
  all_goals
    dsimp only [Exit.then]
    go_wp2
    go_ret
    exact ⟨w.heap.size, rfl, (Below.drew ((Below.refl w.heap.size w).alloc (Nat.le_refl _) _)), Nat.le_refl _, blk_drew (blk_new w _)⟩

set_option maxHeartbeats 2000000 in
theorem wfi_10 (g : Nat) (w : World) (hk : w.cell? ⟨g, 0, none⟩ = some (.int .i64 10)) :
    Calls Try.prog 39 #[.pointer (some ⟨g, 0, none⟩)] w fun e w' => ∃ L : Nat, e = .returned (.slice (some ⟨L, 0, none⟩) 2 2) ∧ Below w.heap.size w w' ∧ w.heap.size ≤ L ∧ w'.heap[L]? = some (lob (fps 1 g [5, 6])) := by
  go_enter Try.func39, Try.ntmps39
  go_wp2
  go_region
  all_goals
    dsimp only [Exit.then]
    go_wp2
    go_ret
    exact ⟨w.heap.size, rfl, (Below.drew ((Below.refl w.heap.size w).alloc (Nat.le_refl _) _)), Nat.le_refl _, blk_drew (blk_new w _)⟩

set_option maxHeartbeats 2000000 in
theorem wfi_11 (g : Nat) (w : World) (hk : w.cell? ⟨g, 0, none⟩ = some (.int .i64 11)) :
    Calls Try.prog 39 #[.pointer (some ⟨g, 0, none⟩)] w fun e w' => ∃ L : Nat, e = .returned (.slice (some ⟨L, 0, none⟩) 4 4) ∧ Below w.heap.size w w' ∧ w.heap.size ≤ L ∧ w'.heap[L]? = some (lob (fps 1 g [5, 6, 1, 3])) := by
  go_enter Try.func39, Try.ntmps39
  go_wp2
  go_region
  all_goals
    dsimp only [Exit.then]
    go_wp2
    go_ret
    exact ⟨w.heap.size, rfl, (Below.drew ((Below.refl w.heap.size w).alloc (Nat.le_refl _) _)), Nat.le_refl _, blk_drew (blk_new w _)⟩

set_option maxHeartbeats 2000000 in
theorem wfi_none (k : Int) (g : Nat) (w : World) (hk : w.cell? ⟨g, 0, none⟩ = some (.int .i64 k)) (h1 : k ≠ 1) (h2 : k ≠ 2) (h3 : k ≠ 3) (h4 : k ≠ 4) (h5 : k ≠ 5) (h6 : k ≠ 6) (h7 : k ≠ 7) (h8 : k ≠ 8) (h9 : k ≠ 9) (h10 : k ≠ 10) (h11 : k ≠ 11) (h12 : k ≠ 12) :
    Calls Try.prog 39 #[.pointer (some ⟨g, 0, none⟩)] w fun e w' => e = .returned (.slice none 0 0) ∧ w' = w := by
  have b1 : (k == 1) = false := by simpa using h1
  have b2 : (k == 2) = false := by simpa using h2
  have b3 : (k == 3) = false := by simpa using h3
  have b4 : (k == 4) = false := by simpa using h4
  have b5 : (k == 5) = false := by simpa using h5
  have b6 : (k == 6) = false := by simpa using h6
  have b7 : (k == 7) = false := by simpa using h7
  have b8 : (k == 8) = false := by simpa using h8
  have b9 : (k == 9) = false := by simpa using h9
  have b10 : (k == 10) = false := by simpa using h10
  have b11 : (k == 11) = false := by simpa using h11
  have b12 : (k == 12) = false := by simpa using h12
  clear h1 h2 h3 h4 h5 h6 h7 h8 h9 h10 h11 h12
  go_enter Try.func39, Try.ntmps39
  go_wp2
  go_ret
  exact ⟨rfl, rfl⟩

theorem wfi_some (k : Int) (os : List Nat) (ho : reqOffs k = some os) (g : Nat) (w : World) (hk : w.cell? ⟨g, 0, none⟩ = some (.int .i64 k)) :
    Calls Try.prog 39 #[.pointer (some ⟨g, 0, none⟩)] w fun e w' => ∃ L : Nat, e = .returned (.slice (some ⟨L, 0, none⟩) os.length os.length) ∧ Below w.heap.size w w' ∧ w.heap.size ≤ L ∧ w'.heap[L]? = some (lob (fps 1 g os)) := by
  by_cases h1 : k = 1
  · subst h1
    obtain rfl : os = [1, 3] := by simp [reqOffs] at ho; exact ho.symm
    exact wfi_1 g w hk
  by_cases h2 : k = 2
  · subst h2
    obtain rfl : os = [1, 3] := by simp [reqOffs] at ho; exact ho.symm
    exact wfi_2 g w hk
  by_cases h3 : k = 3
  · subst h3
    obtain rfl : os = [1, 2, 3, 4] := by simp [reqOffs] at ho; exact ho.symm
    exact wfi_3 g w hk
  by_cases h4 : k = 4
  · subst h4
    obtain rfl : os = [1, 2] := by simp [reqOffs] at ho; exact ho.symm
    exact wfi_4 g w hk
  by_cases h5 : k = 5
  · subst h5
    obtain rfl : os = [1, 2] := by simp [reqOffs] at ho; exact ho.symm
    exact wfi_5 g w hk
  by_cases h6 : k = 6
  · subst h6
    obtain rfl : os = [1] := by simp [reqOffs] at ho; exact ho.symm
    exact wfi_6 g w hk
  by_cases h7 : k = 7
  · subst h7
    obtain rfl : os = [3] := by simp [reqOffs] at ho; exact ho.symm
    exact wfi_7 g w hk
  by_cases h8 : k = 8
  · subst h8
    obtain rfl : os = [1, 3] := by simp [reqOffs] at ho; exact ho.symm
    exact wfi_8 g w hk
  by_cases h9 : k = 9
  · subst h9
    obtain rfl : os = [1, 5, 3] := by simp [reqOffs] at ho; exact ho.symm
    exact wfi_9 g w hk
  by_cases h10 : k = 10
  · subst h10
    obtain rfl : os = [5, 6] := by simp [reqOffs] at ho; exact ho.symm
    exact wfi_10 g w hk
  by_cases h11 : k = 11
  · subst h11
    obtain rfl : os = [5, 6, 1, 3] := by simp [reqOffs] at ho; exact ho.symm
    exact wfi_11 g w hk
  by_cases h12 : k = 12
  · subst h12
    obtain rfl : os = [1] := by simp [reqOffs] at ho; exact ho.symm
    exact wfi_12 g w hk
  · simp [reqOffs, *] at ho
theorem wfi_not (k : Int) (ho : reqOffs k = none) (g : Nat) (w : World) (hk : w.cell? ⟨g, 0, none⟩ = some (.int .i64 k)) :
    Calls Try.prog 39 #[.pointer (some ⟨g, 0, none⟩)] w fun e w' => e = .returned (.slice none 0 0) ∧ w' = w := by
  refine wfi_none k g w hk ?_ ?_ ?_ ?_ ?_ ?_ ?_ ?_ ?_ ?_ ?_ ?_ <;> (rintro rfl; simp [reqOffs] at ho)

/-! ### ours: wireW -/

/-- Blocks of another type than uint8 stay as they are. -/
def Keeps (w w' : World) : Prop := ∀ (g : Nat) (cs : Array Value) (T : TypeId), w.heap[g]? = some (.cells cs T (0, 0)) → T ≠ 5 → w'.heap[g]? = some (.cells cs T (0, 0))
theorem Keeps.refl (w : World) : Keeps w w := fun _ _ _ h _ => h
theorem Keeps.trans {a b c : World} (h : Keeps a b) (k : Keeps b c) : Keeps a c := fun g cs T hg hT => k g cs T (h g cs T hg hT) hT
theorem Keeps.below {a b : World} (h : Below a.heap.size a b) : Keeps a b := fun _ _ _ hg _ => blk_below hg h
theorem Keeps.grown {a b : World} {v : Value} {base : Nat} {ok : Nat → Prop} {xs : List Int} (ho : Kd.R (Kd.int .u8) 5 a base ok v xs) (h : a.grownBy b v.ownBlock) : Keeps a b :=
  fun _ _ _ hg hT => blk_grown hg h (Kd.R_ne ho hg (Ne.symm hT))
def wireWr (k : Nat) : List (Int ⊕ ByteArray) → List Int → Option (Option (List Int))
  | [], b => some (some b)
  | .inl n :: l, b => if 0 ≤ n then (code_Num.f k (IntKind.u64.wrap n)).bind fun t => if b.length + t.length < 140737488355328 then wireWr k l (b ++ t) else none else some none
  | .inr s :: l, b => if (s.size : Int) ≤ 4096 then (code_Text.f k s).bind fun t => if b.length + t.length < 140737488355328 then wireWr k l (b ++ t) else none else some none

theorem blk_of_keeps {a b : World} {g : Nat} {cs : Array Value} {T : TypeId} (h : a.heap[g]? = some (.cells cs T (0, 0))) (hk : Keeps a b) (hT : T ≠ 5) : b.heap[g]? = some (.cells cs T (0, 0)) := hk g cs T h hT

set_option maxHeartbeats 8000000 in
set_option maxRecDepth 100000 in
theorem wwritten (k L base : Nat) (fs : List (Bool × Addr)) (vs : List (Int ⊕ ByteArray)) (vb : Value) (b0 : List Int) (RES : Option (List Int)) (w : World) (hL : w.heap[L]? = some (lob fs)) (hlen : fs.length = vs.length)
    (hfs : ∀ j (h1 : j < fs.length) (h2 : j < vs.length), fs[j].1 = isTx vs[j] ∧ w.cell? fs[j].2 = some (fval vs[j]) ∧ ∃ cs T, w.heap[fs[j].2.block]? = some (.cells cs T (0, 0)) ∧ T ≠ 5)
    (hR : Kd.R (Kd.int .u8) 5 w base (fun _ => True) vb b0) (hbase : base ≤ w.heap.size) (hn : vs.length ≤ 8) (h : wireWr k vs b0 = some RES) :
    Calls Try.prog 28 #[vb, .slice (some ⟨L, 0, none⟩) fs.length fs.length] w fun e w' => ((∃ v r, RES = some r ∧ e = .returned v ∧ Kd.R (Kd.int .u8) 5 w' base (fun _ => True) v r) ∨ (RES = none ∧ e = .panicked wbad)) ∧ Below base w w' ∧ Keeps w w' := by
  have HL := Aside0.mk hL
  have HF := Aside0.mk hfs
  have HR := Aside0.mk hR
  have HBS := Aside0.mk hbase
  have HRES := Aside0.mk h
  have HLE := Aside0.mk hlen
  clear hL hfs hR hbase h
  obtain ⟨n, hln⟩ : ∃ n, vs.length = n := ⟨_, rfl⟩
  have HVN := Aside0.mk hln
  rw [hlen]
  rw [hln] at hn ⊢
  clear hln hlen
  go_enter Try.func28, Try.ntmps28
  go_wp2
  go_loopg [0, 11] n (fun kq v0 v11 w' => ∃ (j : Nat) (v : Value) (b : List Int), v0 = v ∧ v11 = .int .i64 (j : Int) ∧ Aside0 (kq + j = n) ∧ Aside0 (Kd.R (Kd.int .u8) 5 w' base (fun _ => True) v b) ∧ Aside0 (wireWr k (vs.drop j) b = some RES) ∧ Aside0 (Below base w w') ∧ Aside0 (Keeps w w') ∧ Aside0 (base ≤ w'.heap.size))
  case atStart => exact ⟨0, vb, b0, rfl, rfl, ⟨rfl⟩, HR, HRES, ⟨Below.refl _ _⟩, ⟨Keeps.refl _⟩, HBS⟩
  case round =>
    clear HR HRES HBS
    obtain ⟨j, v0, b, rfl, rfl, HK, HO, HRES, HB, HKE, HSZ⟩ := hrel
    cases gk with
    | zero =>
      have ej : j = n := by have := HK.out; omega
      subst ej
      have h := HRES.out
      rw [List.drop_of_length_le (by have := HVN.out; omega), wireWr] at h
      go_wp2
      go_ret
      exact ⟨.inl ⟨_, b, (Option.some.inj h).symm, rfl, HO.out⟩, HB.out, HKE.out⟩
    | succ d =>
      have hj : j < n := by have := HK.out; omega
      have hjb : decide ((j : Int) < (n : Int)) = true := decide_eq_true (by omega)
      have hjb' : decide (j < n) = true := decide_eq_true hj
      have hjv : j < vs.length := by have := HVN.out; omega
      have hjf : j < fs.length := by have := HLE.out; omega
      have hcL := lob_cell2 (HKE.out _ _ _ HL.out (by decide)) hjf
      obtain ⟨hk1, hk2, cs, T, hk3, hk4⟩ := HF.out j hjf hjv
      have hcx := (World.cell?_of_block (w := w) ((HKE.out _ _ _ hk3 hk4).trans hk3.symm)).trans hk2
      clear hk2 hk3 hk4
      have h := HRES.out
      rw [List.drop_eq_getElem_cons hjv] at h
      obtain ⟨⟨tx, a⟩, hfa⟩ : ∃ f, fs[j] = f := ⟨_, rfl⟩
      rw [hfa] at hk1 hcx hcL
      dsimp only at hk1 hcx
      clear hfa
      obtain ⟨x, hx⟩ : ∃ x, vs[j] = x := ⟨_, rfl⟩
      rw [hx] at hk1 hcx h
      subst hk1
      clear hx
      cases x with
      | inl x =>
        unfold fpv isTx at hcL
        rw [if_neg (by simp)] at hcL
        dsimp only at hcL
        dsimp only [fval] at hcx
        rw [wireWr] at h
        by_cases h0 : 0 ≤ x
        · rw [if_pos h0] at h
          obtain ⟨t, ht, h⟩ := Option.bind_eq_some_iff.mp h
          split at h
          rotate_left
          · cases h
          rename_i hlt
          have HT := Aside0.mk ht
          have HLN := Aside0.mk hlt
          have hres := h
          have hx0 : decide (0 ≤ x) = true := decide_eq_true h0
          clear ht hlt h h0
          go_wp2_with (first | ((go_at_call 27); (with_reducible refine (must_ok _).mono ?_); rintro e wm ⟨rfl, rfl⟩) | ((with_reducible refine gate_callee (f := 29) rfl ?_); refine goesL_ (some 29) rfl rfl Try.func29 (by kernel_rfl) rfl #[.int .u64 (IntKind.u64.wrap x)] rfl (by (try simp only [List.map_toArray, List.map_cons, List.map_nil]); first | done | rfl) ?_; (with_reducible refine (code_Num.calls k (IntKind.u64.wrap x) t _ HT.out).mono ?_); rintro e w4 ⟨v4, rfl, ho, hb⟩; refine ⟨_, rfl, ?_⟩; obtain ⟨A4, c4, rfl, hcl, hC⟩ := Kd.R_reads ho; clear ho; have HC := Aside0.mk hC; have m0 := Aside0.mk (HB.out.trans (hb.mono HSZ.out)); have m1 := Aside0.mk (Kd.R_below HO.out hb); have m2 := Aside0.mk (HKE.out.trans (Keeps.below hb)); have m3 := Aside0.mk (Nat.le_trans HSZ.out hb.size); clear HB HO HKE HSZ hC hb hcl hcL hcx; have HB := m0; have HO := m1; have HKE := m2; have HSZ := m3; clear m0 m1 m2 m3) | ((with_reducible refine gate_builtin (b := .append) (xs := #[.tmp 24, .tmp 29]) rfl ?_); at_builtin; refine Kd.R_append_rows (Kd.int .u8) (w0 := w) base rfl (.tmp 24) (.tmp 29) 25 5 (.int .u8 0) 1 rfl Try.underlying25 info5 rfl (by decide) (by omega) _ b t _ _ _ (fun _ => True) (fun _ => False) rfl rfl ?aO ?aR (fun _ _ h => h) (fun _ h => h.elim) ?aF ?aB ?aS ?aL ?_; (case aR => exact HC.out); (case aB => exact HB.out); (case aF => exact (fun _ _ => trivial)); (case aO => exact HO.out); (case aS => exact HSZ.out); (case aL => have := HLN.out; omega); intro v5 w5 ho hb hg hat; have m0 := Aside0.mk hb; have m1 := Aside0.mk ho; have m2 := Aside0.mk (HKE.out.trans (Keeps.grown HO.out hg)); have m3 := Aside0.mk (Nat.le_trans HSZ.out hg.size); clear HB HO HKE HSZ HC ho hb hg hat; have HB := m0; have HO := m1; have HKE := m2; have HSZ := m3; clear m0 m1 m2 m3))
          go_roundg d
          case measure => omega
          case rel => exact ⟨j + 1, v5, b ++ t, rfl, by first | rfl | (rw [show wrap64 ((j : Int) + 1) = ((j + 1 : Nat) : Int) from by unfold wrap64; omega]), ⟨by have := HK.out; omega⟩, HO, ⟨hres⟩, HB, HKE, HSZ⟩
        · rw [if_neg h0] at h
          have hx0 : decide (0 ≤ x) = false := decide_eq_false h0
          clear h0
          go_wp2_with (first | ((go_at_call 27); (with_reducible refine (must_bad _).mono ?_); rintro e wm ⟨rfl, rfl⟩))
          exact ⟨rfl, .inr ⟨(Option.some.inj h).symm, rfl⟩, HB.out, HKE.out⟩
      | inr x =>
        unfold fpv isTx at hcL
        rw [if_pos (by simp)] at hcL
        dsimp only at hcL
        dsimp only [fval] at hcx
        rw [wireWr] at h
        by_cases h0 : (x.size : Int) ≤ 4096
        · rw [if_pos h0] at h
          obtain ⟨t, ht, h⟩ := Option.bind_eq_some_iff.mp h
          split at h
          rotate_left
          · cases h
          rename_i hlt
          have HT := Aside0.mk ht
          have HLN := Aside0.mk hlt
          have hres := h
          have hx0 : decide ((x.size : Int) ≤ 4096) = true := decide_eq_true h0
          have hx1 : decide (x.size ≤ 4096) = true := decide_eq_true (by omega)
          clear ht hlt h h0
          go_wp2_with (first | ((go_at_call 27); (with_reducible refine (must_ok _).mono ?_); rintro e wm ⟨rfl, rfl⟩) | ((with_reducible refine gate_callee (f := 47) rfl ?_); refine goesL_ (some 44) rfl rfl Try.func47 (by kernel_rfl) rfl #[.string x] rfl (by (try simp only [List.map_toArray, List.map_cons, List.map_nil]); first | done | rfl) ?_; (with_reducible refine (code_Text.calls k x t _ HT.out).mono ?_); rintro e w4 ⟨v4, rfl, ho, hb⟩; refine ⟨_, rfl, ?_⟩; obtain ⟨A4, c4, rfl, hcl, hC⟩ := Kd.R_reads ho; clear ho; have HC := Aside0.mk hC; have m0 := Aside0.mk (HB.out.trans (hb.mono HSZ.out)); have m1 := Aside0.mk (Kd.R_below HO.out hb); have m2 := Aside0.mk (HKE.out.trans (Keeps.below hb)); have m3 := Aside0.mk (Nat.le_trans HSZ.out hb.size); clear HB HO HKE HSZ hC hb hcl hcL hcx; have HB := m0; have HO := m1; have HKE := m2; have HSZ := m3; clear m0 m1 m2 m3) | ((with_reducible refine gate_builtin (b := .append) (xs := #[.tmp 40, .tmp 44]) rfl ?_); at_builtin; refine Kd.R_append_rows (Kd.int .u8) (w0 := w) base rfl (.tmp 40) (.tmp 44) 25 5 (.int .u8 0) 1 rfl Try.underlying25 info5 rfl (by decide) (by omega) _ b t _ _ _ (fun _ => True) (fun _ => False) rfl rfl ?aO ?aR (fun _ _ h => h) (fun _ h => h.elim) ?aF ?aB ?aS ?aL ?_; (case aR => exact HC.out); (case aB => exact HB.out); (case aF => exact (fun _ _ => trivial)); (case aO => exact HO.out); (case aS => exact HSZ.out); (case aL => have := HLN.out; omega); intro v5 w5 ho hb hg hat; have m0 := Aside0.mk hb; have m1 := Aside0.mk ho; have m2 := Aside0.mk (HKE.out.trans (Keeps.grown HO.out hg)); have m3 := Aside0.mk (Nat.le_trans HSZ.out hg.size); clear HB HO HKE HSZ HC ho hb hg hat; have HB := m0; have HO := m1; have HKE := m2; have HSZ := m3; clear m0 m1 m2 m3))
          go_roundg d
          case measure => omega
          case rel => exact ⟨j + 1, v5, b ++ t, rfl, by first | rfl | (rw [show wrap64 ((j : Int) + 1) = ((j + 1 : Nat) : Int) from by unfold wrap64; omega]), ⟨by have := HK.out; omega⟩, HO, ⟨hres⟩, HB, HKE, HSZ⟩
        · rw [if_neg h0] at h
          have hx0 : decide ((x.size : Int) ≤ 4096) = false := decide_eq_false h0
          have hx1 : decide (x.size ≤ 4096) = false := decide_eq_false (by omega)
          clear h0
          go_wp2_with (first | ((go_at_call 27); (with_reducible refine (must_bad _).mono ?_); rintro e wm ⟨rfl, rfl⟩))
          exact ⟨rfl, .inr ⟨(Option.some.inj h).symm, rfl⟩, HB.out, HKE.out⟩

theorem wireWr_mono : ∀ (l : List (Int ⊕ ByteArray)) (b : List Int) (k : Nat), LeO (wireWr k l b) (wireWr (k + 1) l b)
  | [], b, k => LeO.refl _
  | .inl n :: l, b, k => by
    rw [wireWr, wireWr]
    exact LeO.ite (LeO.bind (code_Num.mono _ k) (fun t => LeO.ite (wireWr_mono l _ k) (LeO.refl _))) (LeO.refl _)
  | .inr s :: l, b, k => by
    rw [wireWr, wireWr]
    exact LeO.ite (LeO.bind (code_Text.mono _ k) (fun t => LeO.ite (wireWr_mono l _ k) (LeO.refl _))) (LeO.refl _)

def outB : Option (List Int) → List Int × Int
  | some r => (r, 0)
  | none => ([], 220)

/-! ### ours: wireC -/

set_option maxHeartbeats 4000000 in
set_option maxRecDepth 100000 in
theorem wcopied (t g h LA LB T : Nat) (os : List Nat) (rc qc : Array Value) (w : World) (hA : w.heap[LA]? = some (lob (fps t h os))) (hB : w.heap[LB]? = some (lob (fps t g os))) (hg : w.heap[g]? = some (.cells rc T (0, 0))) (hh : w.heap[h]? = some (.cells qc T (0, 0))) (hgh : g ≠ h) (hT : T ≠ 20) (ht : Typed t rc) (ho : ∀ o ∈ os, o < rc.size) (hs : qc.size = rc.size) (hn : os.length ≤ 8) :
    Calls Try.prog 26 #[.slice (some ⟨LA, 0, none⟩) os.length os.length, .slice (some ⟨LB, 0, none⟩) os.length os.length] w fun e w' => e = .returned (.tuple #[]) ∧ w'.heap[h]? = some (.cells (cpy os rc qc) T (0, 0)) ∧ (∀ k, k ≠ h → w'.heap[k]? = w.heap[k]?) ∧ (∀ b, b ≤ h → Below b w w') := by
  have HA := Aside0.mk hA
  have HB := Aside0.mk hB
  have HG := Aside0.mk hg
  have HH := Aside0.mk hh
  have HGH := Aside0.mk hgh
  have HT := Aside0.mk ht
  have HO := Aside0.mk ho
  have HS := Aside0.mk hs
  have HAh := Aside0.mk (blk_ne hA hh (Ne.symm hT))
  have HBh := Aside0.mk (blk_ne hB hh (Ne.symm hT))
  clear hA hB hg hh hgh ht ho hs hT
  obtain ⟨n, hln⟩ : ∃ n, os.length = n := ⟨_, rfl⟩
  have HLN := Aside0.mk hln
  rw [hln] at hn ⊢
  clear hln
  go_enter Try.func26, Try.ntmps26
  go_wp2
  go_loopg [14] n (fun kq v14 w' => ∃ j : Nat, v14 = .int .i64 (j : Int) ∧ Aside0 (kq + j = n) ∧ Aside0 (w'.heap[h]? = some (.cells (cpy (os.take j) rc qc) T (0, 0))) ∧ Aside0 (∀ k, k ≠ h → w'.heap[k]? = w.heap[k]?) ∧ Aside0 (∀ b, b ≤ h → Below b w w'))
  case atStart => exact ⟨0, rfl, ⟨rfl⟩, HH, ⟨fun _ _ => rfl⟩, ⟨fun _ _ => Below.refl _ _⟩⟩
  case round =>
    obtain ⟨j, rfl, HK, HHj, HO2, HW⟩ := hrel
    cases gk with
    | zero =>
      have ej : j = n := by have := HK.out; omega
      subst ej
      go_wp2
      go_end0
      refine ⟨rfl, ?_, HO2.out, HW.out⟩
      have := HHj.out
      rw [List.take_of_length_le (by have := HLN.out; omega)] at this
      exact this
    | succ d =>
      have hj : j < n := by have := HK.out; omega
      have hjb : decide ((j : Int) < (n : Int)) = true := decide_eq_true (by omega)
      have hjb' : decide (j < n) = true := decide_eq_true hj
      have hjl : j < os.length := by have := HLN.out; omega
      have hcB := lob_cell ((HO2.out LB HBh.out).trans HB.out) hjl
      have hcA := lob_cell ((HO2.out LA HAh.out).trans HA.out) hjl
      have hm := HO.out os[j] (List.getElem_mem hjl)
      have hnext : cpy (os.take (j + 1)) rc qc = (cpy (os.take j) rc qc).setIfInBounds os[j] (rc.getD os[j] undef) := by
        rw [← List.take_append_getElem hjl, cpy_snoc]
      have HN := Aside0.mk hnext
      clear hnext
      have hty := HT.out os[j] hm
      have hqs : os[j] < (cpy (os.take j) rc qc).size := by rw [cpy_size, HS.out]; exact hm
      have hcg := blk_cell ((HO2.out g HGH.out).trans HG.out) os[j]
      have hch := blk_cell HHj.out os[j]
      have hfh := blk_frozen HHj.out os[j]
      rw [Array.getElem?_eq_getElem hqs] at hch
      obtain ⟨y, hy⟩ : ∃ y, (cpy (os.take j) rc qc)[os[j]] = y := ⟨_, rfl⟩
      rw [hy] at hch
      clear hy hqs
      obtain ⟨o, hoj⟩ : ∃ o, os[j] = o := ⟨_, rfl⟩
      rw [hoj] at hcB hcA hm hty hcg hch hfh HN
      clear hoj hm
      by_cases hot : (o == t) = true
      · rw [if_pos hot] at hty
        obtain ⟨s, hs⟩ := hty
        rw [hot] at hcB hcA
        unfold fpv at hcB hcA
        rw [if_pos rfl] at hcB hcA
        dsimp only at hcB hcA
        rw [hs] at hcg
        have hgd : rc.getD o undef = .string s := by simp [Array.getD_eq_getD_getElem?, hs]
        rw [hgd] at HN
        clear hgd hs
        go_wp2
        go_roundg d
        case measure => omega
        case rel => exact ⟨j + 1, by first | rfl | (rw [show wrap64 ((j : Int) + 1) = ((j + 1 : Nat) : Int) from by unfold wrap64; omega]), ⟨by have := HK.out; omega⟩, ⟨by rw [HN.out]; exact blk_set HHj.out _ _⟩, ⟨fun k hk => (Below.heap_setCell _ _ _ k hk).trans (HO2.out k hk)⟩, ⟨fun b hb => (HW.out b hb).setCell (p := ⟨h, o, none⟩) hb _⟩⟩
      · rw [if_neg hot] at hty
        obtain ⟨s, hs⟩ := hty
        rw [show (o == t) = false by simpa using hot] at hcB hcA
        unfold fpv at hcB hcA
        rw [if_neg (by simp)] at hcB hcA
        dsimp only at hcB hcA
        rw [hs] at hcg
        have hgd : rc.getD o undef = .int .i64 s := by simp [Array.getD_eq_getD_getElem?, hs]
        rw [hgd] at HN
        clear hgd hs hot
        go_wp2
        go_roundg d
        case measure => omega
        case rel => exact ⟨j + 1, by first | rfl | (rw [show wrap64 ((j : Int) + 1) = ((j + 1 : Nat) : Int) from by unfold wrap64; omega]), ⟨by have := HK.out; omega⟩, ⟨by rw [HN.out]; exact blk_set HHj.out _ _⟩, ⟨fun k hk => (Below.heap_setCell _ _ _ k hk).trans (HO2.out k hk)⟩, ⟨fun b hb => (HW.out b hb).setCell (p := ⟨h, o, none⟩) hb _⟩⟩

def fldOf : Value → Int ⊕ ByteArray
  | .string s => .inr s
  | .int _ n => .inl n
  | _ => .inl 0
theorem fields_ok {t g : Nat} {os : List Nat} {rc : Array Value} {T : TypeId} {w : World} (h : w.heap[g]? = some (.cells rc T (0, 0))) (ht : Typed t rc) (ho : ∀ o ∈ os, o < rc.size) (hT : T ≠ 5) :
    ∀ j (h1 : j < (fps t g os).length) (h2 : j < (os.map fun o => fldOf (rc.getD o undef)).length), (fps t g os)[j].1 = isTx (os.map fun o => fldOf (rc.getD o undef))[j] ∧ w.cell? (fps t g os)[j].2 = some (fval (os.map fun o => fldOf (rc.getD o undef))[j]) ∧ ∃ cs T, w.heap[(fps t g os)[j].2.block]? = some (.cells cs T (0, 0)) ∧ T ≠ 5 := by
  intro j h1 h2
  have hj : j < os.length := by simpa using h2
  have hm := ho os[j] (List.getElem_mem hj)
  have hty := ht os[j] hm
  simp only [fps, List.getElem_map]
  have hc := blk_cell h os[j]
  obtain ⟨o, hoj⟩ : ∃ o, os[j] = o := ⟨_, rfl⟩
  rw [hoj] at hty hc ⊢
  refine ⟨?_, ?_, rc, T, h, hT⟩
  · by_cases hot : (o == t) = true
    · rw [if_pos hot] at hty
      obtain ⟨s, hs⟩ := hty
      have hgd : rc.getD o undef = .string s := by simp [Array.getD_eq_getD_getElem?, hs]
      rw [hgd, hot]
      rfl
    · rw [if_neg hot] at hty
      obtain ⟨s, hs⟩ := hty
      have hgd : rc.getD o undef = .int .i64 s := by simp [Array.getD_eq_getD_getElem?, hs]
      rw [hgd, show (o == t) = false by simpa using hot]
      rfl
  · by_cases hot : (o == t) = true
    · rw [if_pos hot] at hty
      obtain ⟨s, hs⟩ := hty
      have hgd : rc.getD o undef = .string s := by simp [Array.getD_eq_getD_getElem?, hs]
      rw [hgd]
      exact hc.trans hs
    · rw [if_neg hot] at hty
      obtain ⟨s, hs⟩ := hty
      have hgd : rc.getD o undef = .int .i64 s := by simp [Array.getD_eq_getD_getElem?, hs]
      rw [hgd]
      exact hc.trans hs
set_option maxHeartbeats 4000000 in
set_option maxRecDepth 100000 in
theorem wcopied_nil (w : World) : Calls Try.prog 26 #[.slice none 0 0, .slice none 0 0] w fun e w' => e = .returned (.tuple #[]) ∧ w' = w := by
  go_enter Try.func26, Try.ntmps26
  go_wp2
  go_loopg [14] 0 (fun kq v14 w' => v14 = .int .i64 0 ∧ w' = w)
  case atStart => exact ⟨rfl, rfl⟩
  case round =>
    obtain ⟨rfl, rfl⟩ := hrel
    go_wp2
    go_end0
    exact ⟨rfl, rfl⟩

def pickN (os : List Nat) (i : Nat) (a : Int) : Int := if os.contains i = true then a else 0
def pickS (os : List Nat) (i : Nat) (a : ByteArray) : ByteArray := if os.contains i = true then a else ⟨#[]⟩

theorem weqA37 (d : Nat) (w : World) (x0 y0 : Int) (x1 y1 : ByteArray) (x2 y2 x3 y3 x4 y4 x5 y5 x6 y6 : Int) :
    (Op.equalIn (d + 2) 37 (.agg #[.int .i64 x0, .string x1, .int .i64 x2, .int .i64 x3, .int .i64 x4, .int .i64 x5, .int .i64 x6]) (.agg #[.int .i64 y0, .string y1, .int .i64 y2, .int .i64 y3, .int .i64 y4, .int .i64 y5, .int .i64 y6])).run Try.prog w = .ok (x0 == y0 && (x1.toList == y1.toList && (x2 == y2 && (x3 == y3 && (x4 == y4 && (x5 == y5 && (x6 == y6))))))) w := by
  refine eqA_of Try.underlying37 (by kernel_rfl) ?_
  refine eqf_cons (by rfl) (by go_simp; rfl) (by go_simp; rfl) (by go_simp) ?_
  refine eqf_cons (by rfl) (by go_simp; rfl) (by go_simp; rfl) (by go_simp) ?_
  refine eqf_cons (by rfl) (by go_simp; rfl) (by go_simp; rfl) (by go_simp) ?_
  refine eqf_cons (by rfl) (by go_simp; rfl) (by go_simp; rfl) (by go_simp) ?_
  refine eqf_cons (by rfl) (by go_simp; rfl) (by go_simp; rfl) (by go_simp) ?_
  refine eqf_cons (by rfl) (by go_simp; rfl) (by go_simp; rfl) (by go_simp) ?_
  exact eqf_last (by rfl) (by go_simp; rfl) (by go_simp; rfl) (by go_simp)
theorem weqA24 (d : Nat) (w : World) (x0 y0 x1 y1 x2 y2 : Int) (x3 y3 : ByteArray) (x4 y4 : Int) :
    (Op.equalIn (d + 2) 24 (.agg #[.int .i64 x0, .int .i64 x1, .int .i64 x2, .string x3, .int .i64 x4]) (.agg #[.int .i64 y0, .int .i64 y1, .int .i64 y2, .string y3, .int .i64 y4])).run Try.prog w = .ok (x0 == y0 && (x1 == y1 && (x2 == y2 && (x3.toList == y3.toList && (x4 == y4))))) w := by
  refine eqA_of Try.underlying24 (by kernel_rfl) ?_
  refine eqf_cons (by rfl) (by go_simp; rfl) (by go_simp; rfl) (by go_simp) ?_
  refine eqf_cons (by rfl) (by go_simp; rfl) (by go_simp; rfl) (by go_simp) ?_
  refine eqf_cons (by rfl) (by go_simp; rfl) (by go_simp; rfl) (by go_simp) ?_
  refine eqf_cons (by rfl) (by go_simp; rfl) (by go_simp; rfl) (by go_simp) ?_
  exact eqf_last (by rfl) (by go_simp; rfl) (by go_simp; rfl) (by go_simp)

end Go.Proofs.Ytklnnmgfoebbhaa.PWireReplies
