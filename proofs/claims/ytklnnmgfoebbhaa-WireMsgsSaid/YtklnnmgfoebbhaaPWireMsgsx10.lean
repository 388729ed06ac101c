-- Written by wip/xprint of this repo (our own program) out of the translation; what is marked BY HAND is ours. Not trusted: Lean checks it.
import Derived.Test.YtklnnmgfoebbhaaPWireMsgsx0
import Derived.Test.YtklnnmgfoebbhaaPWireMsgsx1
import Derived.Test.YtklnnmgfoebbhaaPWireMsgsx2
import Derived.Test.YtklnnmgfoebbhaaPWireMsgsx3
import Derived.Test.YtklnnmgfoebbhaaPWireMsgsx4
import Derived.Test.YtklnnmgfoebbhaaPWireMsgsx6
import Derived.Test.YtklnnmgfoebbhaaPWireMsgsx9
namespace Go.Proofs.Ytklnnmgfoebbhaa.PWireMsgs
open Go.RowKit Go.Proofs.YtklnnmgfoebbhaaW.PrintWords Go.Proofs.YtklnnmgfoebbhaaW.PrintLast Go.Proofs.YtklnnmgfoebbhaaW.PrintMore
attribute [local go_sem] max2_int min2_int max_two min_two max_three min_three max_four min_four   -- for this text's walks alone
set_option linter.unusedVariables false
set_option linter.unusedSimpArgs false

attribute [local go_sem high] eqA24
/-! ### ours: wireF -/

set_option maxHeartbeats 2000000 in
theorem wfi_1 (g : Nat) (w : World) (hk : w.cell? ⟨g, 0, none⟩ = some (.int .i64 1)) :
    Calls Try.prog 39 #[.pointer (some ⟨g, 0, none⟩)] w fun e w' => ∃ L : Nat, e = .returned (.slice (some ⟨L, 0, none⟩) 2 2) ∧ Below w.heap.size w w' ∧ w.heap.size ≤ L ∧ w'.heap[L]? = some (lob (fps 1 g [1, 3])) := by
  go_enter Try.func39, Try.ntmps39
  go_wp2
  go_region
  all_goals
    dsimp only [Exit.then]
    go_wp2
    go_ret
    exact ⟨w.heap.size, rfl, (Below.drew ((Below.refl w.heap.size w).alloc (Nat.le_refl _) _)), Nat.le_refl _, blk_drew (blk_new w _)⟩

set_option maxHeartbeats 2000000 in
theorem wfi_2 (g : Nat) (w : World) (hk : w.cell? ⟨g, 0, none⟩ = some (.int .i64 2)) :
    Calls Try.prog 39 #[.pointer (some ⟨g, 0, none⟩)] w fun e w' => ∃ L : Nat, e = .returned (.slice (some ⟨L, 0, none⟩) 2 2) ∧ Below w.heap.size w w' ∧ w.heap.size ≤ L ∧ w'.heap[L]? = some (lob (fps 1 g [1, 3])) := by
  go_enter Try.func39, Try.ntmps39
  go_wp2
  go_region
  all_goals
    dsimp only [Exit.then]
    go_wp2
    go_ret
    exact ⟨w.heap.size, rfl, (Below.drew ((Below.refl w.heap.size w).alloc (Nat.le_refl _) _)), Nat.le_refl _, blk_drew (blk_new w _)⟩

set_option maxHeartbeats 2000000 in
theorem wfi_8 (g : Nat) (w : World) (hk : w.cell? ⟨g, 0, none⟩ = some (.int .i64 8)) :
    Calls Try.prog 39 #[.pointer (some ⟨g, 0, none⟩)] w fun e w' => ∃ L : Nat, e = .returned (.slice (some ⟨L, 0, none⟩) 2 2) ∧ Below w.heap.size w w' ∧ w.heap.size ≤ L ∧ w'.heap[L]? = some (lob (fps 1 g [1, 3])) := by
  go_enter Try.func39, Try.ntmps39
  go_wp2
  go_region
  all_goals
    dsimp only [Exit.then]
    go_wp2
    go_ret
    exact ⟨w.heap.size, rfl, (Below.drew ((Below.refl w.heap.size w).alloc (Nat.le_refl _) _)), Nat.le_refl _, blk_drew (blk_new w _)⟩

set_option maxHeartbeats 2000000 in
theorem wfi_3 (g : Nat) (w : World) (hk : w.cell? ⟨g, 0, none⟩ = some (.int .i64 3)) :
    Calls Try.prog 39 #[.pointer (some ⟨g, 0, none⟩)] w fun e w' => ∃ L : Nat, e = .returned (.slice (some ⟨L, 0, none⟩) 4 4) ∧ Below w.heap.size w w' ∧ w.heap.size ≤ L ∧ w'.heap[L]? = some (lob (fps 1 g [1, 2, 3, 4])) := by
  go_enter Try.func39, Try.ntmps39
  go_wp2
  go_region
  all_goals
    dsimp only [Exit.then]
    go_wp2
    go_ret
    exact ⟨w.heap.size, rfl, (Below.drew ((Below.refl w.heap.size w).alloc (Nat.le_refl _) _)), Nat.le_refl _, blk_drew (blk_new w _)⟩

set_option maxHeartbeats 2000000 in
theorem wfi_4 (g : Nat) (w : World) (hk : w.cell? ⟨g, 0, none⟩ = some (.int .i64 4)) :
    Calls Try.prog 39 #[.pointer (some ⟨g, 0, none⟩)] w fun e w' => ∃ L : Nat, e = .returned (.slice (some ⟨L, 0, none⟩) 2 2) ∧ Below w.heap.size w w' ∧ w.heap.size ≤ L ∧ w'.heap[L]? = some (lob (fps 1 g [1, 2])) := by
  go_enter Try.func39, Try.ntmps39
  go_wp2
  go_region
  all_goals
    dsimp only [Exit.then]
    go_wp2
    go_ret
    exact ⟨w.heap.size, rfl, (Below.drew ((Below.refl w.heap.size w).alloc (Nat.le_refl _) _)), Nat.le_refl _, blk_drew (blk_new w _)⟩

set_option maxHeartbeats 2000000 in
theorem wfi_5 (g : Nat) (w : World) (hk : w.cell? ⟨g, 0, none⟩ = some (.int .i64 5)) :
    Calls Try.prog 39 #[.pointer (some ⟨g, 0, none⟩)] w fun e w' => ∃ L : Nat, e = .returned (.slice (some ⟨L, 0, none⟩) 2 2) ∧ Below w.heap.size w w' ∧ w.heap.size ≤ L ∧ w'.heap[L]? = some (lob (fps 1 g [1, 2])) := by
  go_enter Try.func39, Try.ntmps39
  go_wp2
  go_region
  all_goals
    dsimp only [Exit.then]
    go_wp2
    go_ret
    exact ⟨w.heap.size, rfl, (Below.drew ((Below.refl w.heap.size w).alloc (Nat.le_refl _) _)), Nat.le_refl _, blk_drew (blk_new w _)⟩

set_option maxHeartbeats 2000000 in
theorem wfi_6 (g : Nat) (w : World) (hk : w.cell? ⟨g, 0, none⟩ = some (.int .i64 6)) :
    Calls Try.prog 39 #[.pointer (some ⟨g, 0, none⟩)] w fun e w' => ∃ L : Nat, e = .returned (.slice (some ⟨L, 0, none⟩) 1 1) ∧ Below w.heap.size w w' ∧ w.heap.size ≤ L ∧ w'.heap[L]? = some (lob (fps 1 g [1])) := by
  go_enter Try.func39, Try.ntmps39
  go_wp2
  go_ret
  exact ⟨w.heap.size, rfl, ((Below.refl w.heap.size w).alloc (Nat.le_refl _) _), Nat.le_refl _, blk_new w _⟩

set_option maxHeartbeats 2000000 in
theorem wfi_12 (g : Nat) (w : World) (hk : w.cell? ⟨g, 0, none⟩ = some (.int .i64 12)) :
    Calls Try.prog 39 #[.pointer (some ⟨g, 0, none⟩)] w fun e w' => ∃ L : Nat, e = .returned (.slice (some ⟨L, 0, none⟩) 1 1) ∧ Below w.heap.size w w' ∧ w.heap.size ≤ L ∧ w'.heap[L]? = some (lob (fps 1 g [1])) := by
  go_enter Try.func39, Try.ntmps39
  go_wp2
  go_ret
  exact ⟨w.heap.size, rfl, ((Below.refl w.heap.size w).alloc (Nat.le_refl _) _), Nat.le_refl _, blk_new w _⟩

set_option maxHeartbeats 2000000 in
theorem wfi_7 (g : Nat) (w : World) (hk : w.cell? ⟨g, 0, none⟩ = some (.int .i64 7)) :
    Calls Try.prog 39 #[.pointer (some ⟨g, 0, none⟩)] w fun e w' => ∃ L : Nat, e = .returned (.slice (some ⟨L, 0, none⟩) 1 1) ∧ Below w.heap.size w w' ∧ w.heap.size ≤ L ∧ w'.heap[L]? = some (lob (fps 1 g [3])) := by
  go_enter Try.func39, Try.ntmps39
  go_wp2
  go_ret
  exact ⟨w.heap.size, rfl, ((Below.refl w.heap.size w).alloc (Nat.le_refl _) _), Nat.le_refl _, blk_new w _⟩

set_option maxHeartbeats 2000000 in
theorem wfi_9 (g : Nat) (w : World) (hk : w.cell? ⟨g, 0, none⟩ = some (.int .i64 9)) :
    Calls Try.prog 39 #[.pointer (some ⟨g, 0, none⟩)] w fun e w' => ∃ L : Nat, e = .returned (.slice (some ⟨L, 0, none⟩) 3 3) ∧ Below w.heap.size w w' ∧ w.heap.size ≤ L ∧ w'.heap[L]? = some (lob (fps 1 g [1, 5, 3])) := by
  go_enter Try.func39, Try.ntmps39
  go_wp2
  go_region
  all_goals
    dsimp only [Exit.then]
    go_wp2
    go_ret
    exact ⟨w.heap.size, rfl, (Below.drew ((Below.refl w.heap.size w).alloc (Nat.le_refl _) _)), Nat.le_refl _, blk_drew (blk_new w _)⟩

set_option maxHeartbeats 2000000 in
theorem wfi_10 (g : Nat) (w : World) (hk : w.cell? ⟨g, 0, none⟩ = some (.int .i64 10)) :
    Calls Try.prog 39 #[.pointer (some ⟨g, 0, none⟩)] w fun e w' => ∃ L : Nat, e = .returned (.slice (some ⟨L, 0, none⟩) 2 2) ∧ Below w.heap.size w w' ∧ w.heap.size ≤ L ∧ w'.heap[L]? = some (lob (fps 1 g [5, 6])) := by
  go_enter Try.func39, Try.ntmps39
  go_wp2
  go_region
  all_goals
    dsimp only [Exit.then]
    go_wp2
    go_ret
    exact ⟨w.heap.size, rfl, (Below.drew ((Below.refl w.heap.size w).alloc (Nat.le_refl _) _)), Nat.le_refl _, blk_drew (blk_new w _)⟩

set_option maxHeartbeats 2000000 in
theorem wfi_11 (g : Nat) (w : World) (hk : w.cell? ⟨g, 0, none⟩ = some (.int .i64 11)) :
    Calls Try.prog 39 #[.pointer (some ⟨g, 0, none⟩)] w fun e w' => ∃ L : Nat, e = .returned (.slice (some ⟨L, 0, none⟩) 4 4) ∧ Below w.heap.size w w' ∧ w.heap.size ≤ L ∧ w'.heap[L]? = some (lob (fps 1 g [5, 6, 1, 3])) := by
  go_enter Try.func39, Try.ntmps39
  go_wp2
  go_region
  all_goals
    dsimp only [Exit.then]
    go_wp2
    go_ret
    exact ⟨w.heap.size, rfl, (Below.drew ((Below.refl w.heap.size w).alloc (Nat.le_refl _) _)), Nat.le_refl _, blk_drew (blk_new w _)⟩

set_option maxHeartbeats 2000000 in
theorem wfi_none (k : Int) (g : Nat) (w : World) (hk : w.cell? ⟨g, 0, none⟩ = some (.int .i64 k)) (h1 : k ≠ 1) (h2 : k ≠ 2) (h3 : k ≠ 3) (h4 : k ≠ 4) (h5 : k ≠ 5) (h6 : k ≠ 6) (h7 : k ≠ 7) (h8 : k ≠ 8) (h9 : k ≠ 9) (h10 : k ≠ 10) (h11 : k ≠ 11) (h12 : k ≠ 12) :
    Calls Try.prog 39 #[.pointer (some ⟨g, 0, none⟩)] w fun e w' => e = .returned (.slice none 0 0) ∧ w' = w := by
  have b1 : (k == 1) = false := by simpa using h1
  have b2 : (k == 2) = false := by simpa using h2
  have b3 : (k == 3) = false := by simpa using h3
  have b4 : (k == 4) = false := by simpa using h4
  have b5 : (k == 5) = false := by simpa using h5
  have b6 : (k == 6) = false := by simpa using h6
  have b7 : (k == 7) = false := by simpa using h7
  have b8 : (k == 8) = false := by simpa using h8
  have b9 : (k == 9) = false := by simpa using h9
  have b10 : (k == 10) = false := by simpa using h10
  have b11 : (k == 11) = false := by simpa using h11
  have b12 : (k == 12) = false := by simpa using h12
  clear h1 h2 h3 h4 h5 h6 h7 h8 h9 h10 h11 h12
  go_enter Try.func39, Try.ntmps39
  go_wp2
  go_ret
  exact ⟨rfl, rfl⟩

theorem wfi_some (k : Int) (os : List Nat) (ho : reqOffs k = some os) (g : Nat) (w : World) (hk : w.cell? ⟨g, 0, none⟩ = some (.int .i64 k)) :
    Calls Try.prog 39 #[.pointer (some ⟨g, 0, none⟩)] w fun e w' => ∃ L : Nat, e = .returned (.slice (some ⟨L, 0, none⟩) os.length os.length) ∧ Below w.heap.size w w' ∧ w.heap.size ≤ L ∧ w'.heap[L]? = some (lob (fps 1 g os)) := by
  by_cases h1 : k = 1
  · subst h1
    obtain rfl : os = [1, 3] := by simp [reqOffs] at ho; exact ho.symm
    exact wfi_1 g w hk
  by_cases h2 : k = 2
  · subst h2
    obtain rfl : os = [1, 3] := by simp [reqOffs] at ho; exact ho.symm
    exact wfi_2 g w hk
  by_cases h3 : k = 3
  · subst h3
    obtain rfl : os = [1, 2, 3, 4] := by simp [reqOffs] at ho; exact ho.symm
    exact wfi_3 g w hk
  by_cases h4 : k = 4
  · subst h4
    obtain rfl : os = [1, 2] := by simp [reqOffs] at ho; exact ho.symm
    exact wfi_4 g w hk
  by_cases h5 : k = 5
  · subst h5
    obtain rfl : os = [1, 2] := by simp [reqOffs] at ho; exact ho.symm
    exact wfi_5 g w hk
  by_cases h6 : k = 6
  · subst h6
    obtain rfl : os = [1] := by simp [reqOffs] at ho; exact ho.symm
    exact wfi_6 g w hk
  by_cases h7 : k = 7
  · subst h7
    obtain rfl : os = [3] := by simp [reqOffs] at ho; exact ho.symm
    exact wfi_7 g w hk
  by_cases h8 : k = 8
  · subst h8
    obtain rfl : os = [1, 3] := by simp [reqOffs] at ho; exact ho.symm
    exact wfi_8 g w hk
  by_cases h9 : k = 9
  · subst h9
    obtain rfl : os = [1, 5, 3] := by simp [reqOffs] at ho; exact ho.symm
    exact wfi_9 g w hk
  by_cases h10 : k = 10
  · subst h10
    obtain rfl : os = [5, 6] := by simp [reqOffs] at ho; exact ho.symm
    exact wfi_10 g w hk
  by_cases h11 : k = 11
  · subst h11
    obtain rfl : os = [5, 6, 1, 3] := by simp [reqOffs] at ho; exact ho.symm
    exact wfi_11 g w hk
  by_cases h12 : k = 12
  · subst h12
    obtain rfl : os = [1] := by simp [reqOffs] at ho; exact ho.symm
    exact wfi_12 g w hk
  · simp [reqOffs, *] at ho
theorem wfi_not (k : Int) (ho : reqOffs k = none) (g : Nat) (w : World) (hk : w.cell? ⟨g, 0, none⟩ = some (.int .i64 k)) :
    Calls Try.prog 39 #[.pointer (some ⟨g, 0, none⟩)] w fun e w' => e = .returned (.slice none 0 0) ∧ w' = w := by
  refine wfi_none k g w hk ?_ ?_ ?_ ?_ ?_ ?_ ?_ ?_ ?_ ?_ ?_ ?_ <;> (rintro rfl; simp [reqOffs] at ho)

/-! ### wire_Bytes: function 15 -/
-- BY HAND

def reqCells (a0 : Int) (a1 : ByteArray) (a2 : Int) (a3 : Int) (a4 : Int) (a5 : Int) (a6 : Int) : Array Value := #[.int .i64 a0, .string a1, .int .i64 a2, .int .i64 a3, .int .i64 a4, .int .i64 a5, .int .i64 a6]
def reqFlds (os : List Nat) (a0 : Int) (a1 : ByteArray) (a2 : Int) (a3 : Int) (a4 : Int) (a5 : Int) (a6 : Int) : List (Int ⊕ ByteArray) := os.map fun o => fldOf ((reqCells a0 a1 a2 a3 a4 a5 a6).getD o undef)
theorem cpy_req (os : List Nat) (a0 : Int) (a1 : ByteArray) (a2 : Int) (a3 : Int) (a4 : Int) (a5 : Int) (a6 : Int) (ho : reqOffs a0 = some os) : cpy os #[.int .i64 a0, .string a1, .int .i64 a2, .int .i64 a3, .int .i64 a4, .int .i64 a5, .int .i64 a6] #[.int .i64 a0, .string ⟨#[]⟩, .int .i64 0, .int .i64 0, .int .i64 0, .int .i64 0, .int .i64 0] = #[.int .i64 a0, .string (pickS os 1 a1), .int .i64 (pickN os 2 a2), .int .i64 (pickN os 3 a3), .int .i64 (pickN os 4 a4), .int .i64 (pickN os 5 a5), .int .i64 (pickN os 6 a6)] := by
  rcases reqOffs_cases ho with rfl | rfl | rfl | rfl | rfl | rfl | rfl | rfl <;> rfl
def reqPlain (os : List Nat) (a1 : ByteArray) (a2 : Int) (a3 : Int) (a4 : Int) (a5 : Int) (a6 : Int) : Bool := true && (((pickS os 1 a1).toList == a1.toList) && ((pickN os 2 a2 == a2) && ((pickN os 3 a3 == a3) && ((pickN os 4 a4 == a4) && ((pickN os 5 a5 == a5) && ((pickN os 6 a6 == a6)))))))
theorem typed_req (a0 : Int) (a1 : ByteArray) (a2 : Int) (a3 : Int) (a4 : Int) (a5 : Int) (a6 : Int) : Typed 1 #[.int .i64 a0, .string a1, .int .i64 a2, .int .i64 a3, .int .i64 a4, .int .i64 a5, .int .i64 a6] := by
  intro o ho
  match o, ho with
  | 0, _ => exact ⟨_, rfl⟩
  | 1, _ => exact ⟨_, rfl⟩
  | 2, _ => exact ⟨_, rfl⟩
  | 3, _ => exact ⟨_, rfl⟩
  | 4, _ => exact ⟨_, rfl⟩
  | 5, _ => exact ⟨_, rfl⟩
  | 6, _ => exact ⟨_, rfl⟩
  | o + 7, ho => exact absurd ho (by simp)
theorem offs_req {k : Int} {os : List Nat} (h : reqOffs k = some os) : (∀ o ∈ os, o < 7) ∧ os.length ≤ 8 := by
  rcases reqOffs_cases h with rfl | rfl | rfl | rfl | rfl | rfl | rfl | rfl <;> simp
theorem wneq_req (w : World) (x0 y0 : Int) (x1 y1 : ByteArray) (x2 y2 : Int) (x3 y3 : Int) (x4 y4 : Int) (x5 y5 : Int) (x6 y6 : Int) : (binOp .eql 37 (.agg #[.int .i64 x0, .string x1, .int .i64 x2, .int .i64 x3, .int .i64 x4, .int .i64 x5, .int .i64 x6]) (.agg #[.int .i64 y0, .string y1, .int .i64 y2, .int .i64 y3, .int .i64 y4, .int .i64 y5, .int .i64 y6])).run Try.prog w = .ok (.bool ((x0 == y0) && ((x1.toList == y1.toList) && ((x2 == y2) && ((x3 == y3) && ((x4 == y4) && ((x5 == y5) && ((x6 == y6))))))))) w := by
  simp only [binOp]
  rw [show Op.equal 37 = Op.equalIn (9998 + 2) 37 from rfl]
  simp only [Sem.run_bind, weqA37]
  rfl

theorem clBytes_bad (g g2 : Nat) (x : Int) (u : FrameMode) (v : Value) (w : World) (hx : x ≠ 0) (hc : w.heap[g]? = some (.cells #[.int .i64 x] 28 (0, 0))) (hc2 : w.heap[g2]? = some (.cells #[v] 25 (0, 0))) :
    CallsD Try.prog 38 #[.pointer (some ⟨g, 0, none⟩), .pointer (some ⟨g2, 0, none⟩)] u w fun e u' w' =>
      u' = u ∧ (e = .returned (.tuple #[]) ∧ w' = (w.setCell ⟨g2, 0, none⟩ (.slice none 0 0))) := by
  have h1 := blk_cell hc 0
  simp only [List.getElem?_toArray, List.getElem?_cons_zero] at h1
  have k0 := blk_cell hc2 0; have f0 := blk_frozen hc2 0; simp only [List.getElem?_toArray, List.getElem?_cons_zero, List.getElem?_cons_succ] at k0
  have hx1 : (x != 0) = true := by simpa using hx
  have hx2 : (x == 0) = false := by simpa using hx
  go_enter_d Try.func38, Try.ntmps38
  go_wp2
  go_end0
  exact ⟨rfl, rfl⟩
theorem clBytes_ok (g : Nat) (p : Addr) (u : FrameMode) (w : World) (hc : w.heap[g]? = some (.cells #[.int .i64 0] 28 (0, 0))) :
    CallsD Try.prog 38 #[.pointer (some ⟨g, 0, none⟩), .pointer (some p)] u w fun e u' w' =>
      u' = u ∧ (e = .returned (.tuple #[]) ∧ w' = w) := by
  have h1 := blk_cell hc 0
  simp only [List.getElem?_toArray, List.getElem?_cons_zero] at h1
  go_enter_d Try.func38, Try.ntmps38
  go_wp2
  go_end0
  exact ⟨rfl, rfl⟩

set_option maxHeartbeats 8000000 in
set_option maxRecDepth 100000 in
theorem wBytes_not (a0 : Int) (a1 : ByteArray) (a2 : Int) (a3 : Int) (a4 : Int) (a5 : Int) (a6 : Int) (w : World) (ho : reqOffs a0 = none) :
    Calls Try.prog 15 #[.agg #[.int .i64 a0, .string a1, .int .i64 a2, .int .i64 a3, .int .i64 a4, .int .i64 a5, .int .i64 a6]] w fun e w' => e = .returned (.tuple #[.slice none 0 0, .int .i64 220]) ∧ Below w.heap.size w w' := by
  have HB := Aside0.mk (Below.refl w.heap.size w)
  have hmf : ∀ (fn : Fn) (first cap : Array Value) (w : World), (Instr.makeFunc fn first cap).run Try.prog w = .ok (.func fn first cap) w := fun _ _ _ _ => rfl
  go_enter_defers Try.func15, Try.ntmps15
  go_wp2_with (first | ((with_reducible refine gate_dst (N := 1) rfl ?_); (try (refine gate_guard (by rfl) ?_; dsimp only)); refine box_event ?hg (N := 1) ?hd (cs := #[.int .i64 a0, .string a1, .int .i64 a2, .int .i64 a3, .int .i64 a4, .int .i64 a5, .int .i64 a6]) (t := 37) ?hr ?_; (case hd => rfl); (case hg => rfl); (case hr => first | (go_simp; done) | (go_simp; rfl)); intro g1 hg w1 hbox hb; have m0 := Aside0.mk (below_step (by repeat (first | (with_reducible first | exact HB.out | apply below_alloc | apply pw_below_drewN | apply below_drew1) | exact HB.out)) hb); have m1 := Aside0.mk hbox; have m2 := Aside0.mk ((by rw [hg]; exact (below_size (by repeat (first | (with_reducible first | exact HB.out | apply below_alloc | apply pw_below_drewN | apply below_drew1) | exact HB.out))) : w.heap.size ≤ g1)); clear HB ; have HB := m0; have B1 := m1; have G1 := m2; clear m0 m1 m2; clear hb hbox hg) | ((with_reducible refine gate_dst (N := 2) rfl ?_); (try (refine gate_guard (by rfl) ?_; dsimp only)); refine box_event ?hg (N := 2) ?hd (cs := #[.slice none 0 0]) (t := 25) ?hr ?_; (case hd => rfl); (case hg => rfl); (case hr => first | (go_simp; done) | (go_simp; rfl)); intro g2 hg w2 hbox hb; have m0 := Aside0.mk (below_step (by repeat (first | (with_reducible first | exact HB.out | apply below_alloc | apply pw_below_drewN | apply below_drew1) | exact HB.out)) hb); have m1 := Aside0.mk hbox; have m2 := Aside0.mk ((by rw [hg]; exact (below_size (by repeat (first | (with_reducible first | exact HB.out | apply below_alloc | apply pw_below_drewN | apply below_drew1) | exact HB.out))) : w.heap.size ≤ g2)); have m3 := Aside0.mk (blk_below (g := g1) (o := (.cells #[.int .i64 a0, .string a1, .int .i64 a2, .int .i64 a3, .int .i64 a4, .int .i64 a5, .int .i64 a6] 37 (0, 0))) (by (with_reducible repeat (first | refine blk_drewN ?_ _ | refine blk_drew ?_ | refine blk_alloc ?_ _)); exact B1.out) hb); have m4 := Aside0.mk ((by rw [hg]; exact (blk_lt (g := g1) (o := (.cells #[.int .i64 a0, .string a1, .int .i64 a2, .int .i64 a3, .int .i64 a4, .int .i64 a5, .int .i64 a6] 37 (0, 0))) (by (with_reducible repeat (first | refine blk_drewN ?_ _ | refine blk_drew ?_ | refine blk_alloc ?_ _)); exact B1.out))) : g1 < g2); clear HB B1; have HB := m0; have B2 := m1; have G2 := m2; have B1 := m3; have Ng1g2 := m4; clear m0 m1 m2 m3 m4; clear hb hbox hg) | ((with_reducible refine gate_dst (N := 3) rfl ?_); (try (refine gate_guard (by rfl) ?_; dsimp only)); refine box_event ?hg (N := 3) ?hd (cs := #[.int .i64 0]) (t := 28) ?hr ?_; (case hd => rfl); (case hg => rfl); (case hr => first | (go_simp; done) | (go_simp; rfl)); intro g3 hg w3 hbox hb; have m0 := Aside0.mk (below_step (by repeat (first | (with_reducible first | exact HB.out | apply below_alloc | apply pw_below_drewN | apply below_drew1) | exact HB.out)) hb); have m1 := Aside0.mk hbox; have m2 := Aside0.mk ((by rw [hg]; exact (below_size (by repeat (first | (with_reducible first | exact HB.out | apply below_alloc | apply pw_below_drewN | apply below_drew1) | exact HB.out))) : w.heap.size ≤ g3)); have m3 := Aside0.mk (blk_below (g := g1) (o := (.cells #[.int .i64 a0, .string a1, .int .i64 a2, .int .i64 a3, .int .i64 a4, .int .i64 a5, .int .i64 a6] 37 (0, 0))) (by (with_reducible repeat (first | refine blk_drewN ?_ _ | refine blk_drew ?_ | refine blk_alloc ?_ _)); exact B1.out) hb); have m4 := Aside0.mk ((by rw [hg]; exact (blk_lt (g := g1) (o := (.cells #[.int .i64 a0, .string a1, .int .i64 a2, .int .i64 a3, .int .i64 a4, .int .i64 a5, .int .i64 a6] 37 (0, 0))) (by (with_reducible repeat (first | refine blk_drewN ?_ _ | refine blk_drew ?_ | refine blk_alloc ?_ _)); exact B1.out))) : g1 < g3); have m5 := Aside0.mk (blk_below (g := g2) (o := (.cells #[.slice none 0 0] 25 (0, 0))) (by (with_reducible repeat (first | refine blk_drewN ?_ _ | refine blk_drew ?_ | refine blk_alloc ?_ _)); exact B2.out) hb); have m6 := Aside0.mk ((by rw [hg]; exact (blk_lt (g := g2) (o := (.cells #[.slice none 0 0] 25 (0, 0))) (by (with_reducible repeat (first | refine blk_drewN ?_ _ | refine blk_drew ?_ | refine blk_alloc ?_ _)); exact B2.out))) : g2 < g3); clear HB B1 B2; have HB := m0; have B3 := m1; have G3 := m2; have B1 := m3; have Ng1g3 := m4; have B2 := m5; have Ng2g3 := m6; clear m0 m1 m2 m3 m4 m5 m6; clear hb hbox hg))
  have hk1 : w3.cell? ⟨g1, 0, none⟩ = some (.int .i64 a0) := by
    have q := blk_cell B1.out 0
    simpa using q
  refine (wfi_not a0 ho g1 w3 hk1).mono ?_
  rintro e w4 ⟨rfl, rfl⟩
  go_wp2_with (first | ((with_reducible refine gate_dst (N := 5) rfl ?_); (try (refine gate_guard (by rfl) ?_; dsimp only)); refine box_event ?hg (N := 5) ?hd (cs := #[.int .i64 0, .string ⟨#[]⟩, .int .i64 0, .int .i64 0, .int .i64 0, .int .i64 0, .int .i64 0]) (t := 37) ?hr ?_; (case hd => rfl); (case hg => rfl); (case hr => first | (go_simp; done) | (go_simp; rfl)); intro g5 hg w5 hbox hb; have m0 := Aside0.mk (below_step (by repeat (first | (with_reducible first | exact HB.out | apply below_alloc | apply pw_below_drewN | apply below_drew1) | exact HB.out)) hb); have m1 := Aside0.mk hbox; have m2 := Aside0.mk ((by rw [hg]; exact (below_size (by repeat (first | (with_reducible first | exact HB.out | apply below_alloc | apply pw_below_drewN | apply below_drew1) | exact HB.out))) : w.heap.size ≤ g5)); have m3 := Aside0.mk (blk_below (g := g1) (o := (.cells #[.int .i64 a0, .string a1, .int .i64 a2, .int .i64 a3, .int .i64 a4, .int .i64 a5, .int .i64 a6] 37 (0, 0))) (by (with_reducible repeat (first | refine blk_drewN ?_ _ | refine blk_drew ?_ | refine blk_alloc ?_ _)); exact B1.out) hb); have m4 := Aside0.mk ((by rw [hg]; exact (blk_lt (g := g1) (o := (.cells #[.int .i64 a0, .string a1, .int .i64 a2, .int .i64 a3, .int .i64 a4, .int .i64 a5, .int .i64 a6] 37 (0, 0))) (by (with_reducible repeat (first | refine blk_drewN ?_ _ | refine blk_drew ?_ | refine blk_alloc ?_ _)); exact B1.out))) : g1 < g5); have m5 := Aside0.mk (blk_below (g := g2) (o := (.cells #[.slice none 0 0] 25 (0, 0))) (by (with_reducible repeat (first | refine blk_drewN ?_ _ | refine blk_drew ?_ | refine blk_alloc ?_ _)); exact B2.out) hb); have m6 := Aside0.mk ((by rw [hg]; exact (blk_lt (g := g2) (o := (.cells #[.slice none 0 0] 25 (0, 0))) (by (with_reducible repeat (first | refine blk_drewN ?_ _ | refine blk_drew ?_ | refine blk_alloc ?_ _)); exact B2.out))) : g2 < g5); have m7 := Aside0.mk (blk_below (g := g3) (o := (.cells #[.int .i64 0] 28 (0, 0))) (by (with_reducible repeat (first | refine blk_drewN ?_ _ | refine blk_drew ?_ | refine blk_alloc ?_ _)); exact B3.out) hb); have m8 := Aside0.mk ((by rw [hg]; exact (blk_lt (g := g3) (o := (.cells #[.int .i64 0] 28 (0, 0))) (by (with_reducible repeat (first | refine blk_drewN ?_ _ | refine blk_drew ?_ | refine blk_alloc ?_ _)); exact B3.out))) : g3 < g5); clear hk1; clear HB B1 B2 B3; have HB := m0; have B5 := m1; have G5 := m2; have B1 := m3; have Ng1g5 := m4; have B2 := m5; have Ng2g5 := m6; have B3 := m7; have Ng3g5 := m8; clear m0 m1 m2 m3 m4 m5 m6 m7 m8; clear hb hbox hg; have hcB50 := blk_cell B5.out 0; simp only [List.getElem?_toArray, List.getElem?_cons_zero, List.getElem?_cons_succ] at hcB50; have hfB50 := blk_frozen B5.out 0; have hcB51 := blk_cell B5.out 1; simp only [List.getElem?_toArray, List.getElem?_cons_zero, List.getElem?_cons_succ] at hcB51; have hfB51 := blk_frozen B5.out 1; have hcB52 := blk_cell B5.out 2; simp only [List.getElem?_toArray, List.getElem?_cons_zero, List.getElem?_cons_succ] at hcB52; have hfB52 := blk_frozen B5.out 2; have hcB53 := blk_cell B5.out 3; simp only [List.getElem?_toArray, List.getElem?_cons_zero, List.getElem?_cons_succ] at hcB53; have hfB53 := blk_frozen B5.out 3; have hcB54 := blk_cell B5.out 4; simp only [List.getElem?_toArray, List.getElem?_cons_zero, List.getElem?_cons_succ] at hcB54; have hfB54 := blk_frozen B5.out 4; have hcB55 := blk_cell B5.out 5; simp only [List.getElem?_toArray, List.getElem?_cons_zero, List.getElem?_cons_succ] at hcB55; have hfB55 := blk_frozen B5.out 5; have hcB56 := blk_cell B5.out 6; simp only [List.getElem?_toArray, List.getElem?_cons_zero, List.getElem?_cons_succ] at hcB56; have hfB56 := blk_frozen B5.out 6))
  have m5 := (blk_put (cs' := #[.int .i64 a0, .string ⟨#[]⟩, .int .i64 0, .int .i64 0, .int .i64 0, .int .i64 0, .int .i64 0]) (blk_put (cs' := #[.int .i64 a0, .string ⟨#[]⟩, .int .i64 0, .int .i64 0, .int .i64 0, .int .i64 0, .int .i64 0]) (blk_put (cs' := #[.int .i64 a0, .string ⟨#[]⟩, .int .i64 0, .int .i64 0, .int .i64 0, .int .i64 0, .int .i64 0]) (blk_put (cs' := #[.int .i64 a0, .string ⟨#[]⟩, .int .i64 0, .int .i64 0, .int .i64 0, .int .i64 0, .int .i64 0]) (blk_put (cs' := #[.int .i64 a0, .string ⟨#[]⟩, .int .i64 0, .int .i64 0, .int .i64 0, .int .i64 0, .int .i64 0]) (blk_put (cs' := #[.int .i64 a0, .string ⟨#[]⟩, .int .i64 0, .int .i64 0, .int .i64 0, .int .i64 0, .int .i64 0]) (blk_put (cs' := #[.int .i64 a0, .string ⟨#[]⟩, .int .i64 0, .int .i64 0, .int .i64 0, .int .i64 0, .int .i64 0]) B5.out 0 (.int .i64 a0) rfl) 1 (.string ⟨#[]⟩) rfl) 2 (.int .i64 0) rfl) 3 (.int .i64 0) rfl) 4 (.int .i64 0) rfl) 5 (.int .i64 0) rfl) 6 (.int .i64 0) rfl)
  have m1 := (blk_far (p := ⟨g5, 6, none⟩) (blk_far (p := ⟨g5, 5, none⟩) (blk_far (p := ⟨g5, 4, none⟩) (blk_far (p := ⟨g5, 3, none⟩) (blk_far (p := ⟨g5, 2, none⟩) (blk_far (p := ⟨g5, 1, none⟩) (blk_far (p := ⟨g5, 0, none⟩) B1.out (Nat.ne_of_lt Ng1g5.out) (.int .i64 a0)) (Nat.ne_of_lt Ng1g5.out) (.string ⟨#[]⟩)) (Nat.ne_of_lt Ng1g5.out) (.int .i64 0)) (Nat.ne_of_lt Ng1g5.out) (.int .i64 0)) (Nat.ne_of_lt Ng1g5.out) (.int .i64 0)) (Nat.ne_of_lt Ng1g5.out) (.int .i64 0)) (Nat.ne_of_lt Ng1g5.out) (.int .i64 0))
  have m2 := (blk_far (p := ⟨g5, 6, none⟩) (blk_far (p := ⟨g5, 5, none⟩) (blk_far (p := ⟨g5, 4, none⟩) (blk_far (p := ⟨g5, 3, none⟩) (blk_far (p := ⟨g5, 2, none⟩) (blk_far (p := ⟨g5, 1, none⟩) (blk_far (p := ⟨g5, 0, none⟩) B2.out (Nat.ne_of_lt Ng2g5.out) (.int .i64 a0)) (Nat.ne_of_lt Ng2g5.out) (.string ⟨#[]⟩)) (Nat.ne_of_lt Ng2g5.out) (.int .i64 0)) (Nat.ne_of_lt Ng2g5.out) (.int .i64 0)) (Nat.ne_of_lt Ng2g5.out) (.int .i64 0)) (Nat.ne_of_lt Ng2g5.out) (.int .i64 0)) (Nat.ne_of_lt Ng2g5.out) (.int .i64 0))
  have m3 := (blk_far (p := ⟨g5, 6, none⟩) (blk_far (p := ⟨g5, 5, none⟩) (blk_far (p := ⟨g5, 4, none⟩) (blk_far (p := ⟨g5, 3, none⟩) (blk_far (p := ⟨g5, 2, none⟩) (blk_far (p := ⟨g5, 1, none⟩) (blk_far (p := ⟨g5, 0, none⟩) B3.out (Nat.ne_of_lt Ng3g5.out) (.int .i64 a0)) (Nat.ne_of_lt Ng3g5.out) (.string ⟨#[]⟩)) (Nat.ne_of_lt Ng3g5.out) (.int .i64 0)) (Nat.ne_of_lt Ng3g5.out) (.int .i64 0)) (Nat.ne_of_lt Ng3g5.out) (.int .i64 0)) (Nat.ne_of_lt Ng3g5.out) (.int .i64 0)) (Nat.ne_of_lt Ng3g5.out) (.int .i64 0))
  have m0 := (((((((HB.out.setCell (p := ⟨g5, 0, none⟩) G5.out (.int .i64 a0)).setCell (p := ⟨g5, 1, none⟩) G5.out (.string ⟨#[]⟩)).setCell (p := ⟨g5, 2, none⟩) G5.out (.int .i64 0)).setCell (p := ⟨g5, 3, none⟩) G5.out (.int .i64 0)).setCell (p := ⟨g5, 4, none⟩) G5.out (.int .i64 0)).setCell (p := ⟨g5, 5, none⟩) G5.out (.int .i64 0)).setCell (p := ⟨g5, 6, none⟩) G5.out (.int .i64 0))
  clear HB B1 B2 B3 B5 hcB50 hfB50 hcB51 hfB51 hcB52 hfB52 hcB53 hfB53 hcB54 hfB54 hcB55 hfB55 hcB56 hfB56
  generalize (((((((w5.setCell ⟨g5, 0, none⟩ (.int .i64 a0)).setCell ⟨g5, 1, none⟩ (.string ⟨#[]⟩)).setCell ⟨g5, 2, none⟩ (.int .i64 0)).setCell ⟨g5, 3, none⟩ (.int .i64 0)).setCell ⟨g5, 4, none⟩ (.int .i64 0)).setCell ⟨g5, 5, none⟩ (.int .i64 0)).setCell ⟨g5, 6, none⟩ (.int .i64 0)) = w6 at m0 m1 m2 m3 m5 ⊢
  have hk5 : w6.cell? ⟨g5, 0, none⟩ = some (.int .i64 a0) := by
    have q := blk_cell m5 0
    simpa using q
  refine (wfi_not a0 ho g5 w6 hk5).mono ?_
  rintro e w7 ⟨rfl, rfl⟩
  have hnn := fun (w : World) => run_neq_slice_nil_any (P := Try.prog) w 52 20 none 0 0 0 0 Try.underlying52
  clear hk5
  go_wp2_with (first | ((go_at_call 26); (with_reducible refine (wcopied_nil _).mono ?_); rintro e wm ⟨rfl, rfl⟩) | ((go_at_call 27); (with_reducible refine (must_bad _).mono ?_); rintro e wm ⟨rfl, rfl⟩))
  refine doorB_bad 38 clBytes_bad (fun _ _ _ => by simp [go_sem]) Try.f15 rfl _ g2 g3 w.heap.size rfl rfl 0 (.slice none 0 0) w _ m0 (below_size m0) G2.out G3.out m2 m3 _ ?_
  intro w' hb
  exact ⟨rfl, hb⟩

set_option maxHeartbeats 8000000 in
set_option maxRecDepth 100000 in
theorem wBytes_odd (os : List Nat) (a0 : Int) (a1 : ByteArray) (a2 : Int) (a3 : Int) (a4 : Int) (a5 : Int) (a6 : Int) (w : World) (ho : reqOffs a0 = some os) (hpl : reqPlain os a1 a2 a3 a4 a5 a6 = false) :
    Calls Try.prog 15 #[.agg #[.int .i64 a0, .string a1, .int .i64 a2, .int .i64 a3, .int .i64 a4, .int .i64 a5, .int .i64 a6]] w fun e w' => e = .returned (.tuple #[.slice none 0 0, .int .i64 220]) ∧ Below w.heap.size w w' := by
  have HB := Aside0.mk (Below.refl w.heap.size w)
  have hmf : ∀ (fn : Fn) (first cap : Array Value) (w : World), (Instr.makeFunc fn first cap).run Try.prog w = .ok (.func fn first cap) w := fun _ _ _ _ => rfl
  have HOS := Aside0.mk ho
  have HPL := Aside0.mk hpl
  clear ho hpl
  go_enter_defers Try.func15, Try.ntmps15
  go_wp2_with (first | ((with_reducible refine gate_dst (N := 1) rfl ?_); (try (refine gate_guard (by rfl) ?_; dsimp only)); refine box_event ?hg (N := 1) ?hd (cs := #[.int .i64 a0, .string a1, .int .i64 a2, .int .i64 a3, .int .i64 a4, .int .i64 a5, .int .i64 a6]) (t := 37) ?hr ?_; (case hd => rfl); (case hg => rfl); (case hr => first | (go_simp; done) | (go_simp; rfl)); intro g1 hg w1 hbox hb; have m0 := Aside0.mk (below_step (by repeat (first | (with_reducible first | exact HB.out | apply below_alloc | apply pw_below_drewN | apply below_drew1) | exact HB.out)) hb); have m1 := Aside0.mk hbox; have m2 := Aside0.mk ((by rw [hg]; exact (below_size (by repeat (first | (with_reducible first | exact HB.out | apply below_alloc | apply pw_below_drewN | apply below_drew1) | exact HB.out))) : w.heap.size ≤ g1)); clear HB ; have HB := m0; have B1 := m1; have G1 := m2; clear m0 m1 m2; clear hb hbox hg) | ((with_reducible refine gate_dst (N := 2) rfl ?_); (try (refine gate_guard (by rfl) ?_; dsimp only)); refine box_event ?hg (N := 2) ?hd (cs := #[.slice none 0 0]) (t := 25) ?hr ?_; (case hd => rfl); (case hg => rfl); (case hr => first | (go_simp; done) | (go_simp; rfl)); intro g2 hg w2 hbox hb; have m0 := Aside0.mk (below_step (by repeat (first | (with_reducible first | exact HB.out | apply below_alloc | apply pw_below_drewN | apply below_drew1) | exact HB.out)) hb); have m1 := Aside0.mk hbox; have m2 := Aside0.mk ((by rw [hg]; exact (below_size (by repeat (first | (with_reducible first | exact HB.out | apply below_alloc | apply pw_below_drewN | apply below_drew1) | exact HB.out))) : w.heap.size ≤ g2)); have m3 := Aside0.mk (blk_below (g := g1) (o := (.cells #[.int .i64 a0, .string a1, .int .i64 a2, .int .i64 a3, .int .i64 a4, .int .i64 a5, .int .i64 a6] 37 (0, 0))) (by (with_reducible repeat (first | refine blk_drewN ?_ _ | refine blk_drew ?_ | refine blk_alloc ?_ _)); exact B1.out) hb); have m4 := Aside0.mk ((by rw [hg]; exact (blk_lt (g := g1) (o := (.cells #[.int .i64 a0, .string a1, .int .i64 a2, .int .i64 a3, .int .i64 a4, .int .i64 a5, .int .i64 a6] 37 (0, 0))) (by (with_reducible repeat (first | refine blk_drewN ?_ _ | refine blk_drew ?_ | refine blk_alloc ?_ _)); exact B1.out))) : g1 < g2); clear HB B1; have HB := m0; have B2 := m1; have G2 := m2; have B1 := m3; have Ng1g2 := m4; clear m0 m1 m2 m3 m4; clear hb hbox hg) | ((with_reducible refine gate_dst (N := 3) rfl ?_); (try (refine gate_guard (by rfl) ?_; dsimp only)); refine box_event ?hg (N := 3) ?hd (cs := #[.int .i64 0]) (t := 28) ?hr ?_; (case hd => rfl); (case hg => rfl); (case hr => first | (go_simp; done) | (go_simp; rfl)); intro g3 hg w3 hbox hb; have m0 := Aside0.mk (below_step (by repeat (first | (with_reducible first | exact HB.out | apply below_alloc | apply pw_below_drewN | apply below_drew1) | exact HB.out)) hb); have m1 := Aside0.mk hbox; have m2 := Aside0.mk ((by rw [hg]; exact (below_size (by repeat (first | (with_reducible first | exact HB.out | apply below_alloc | apply pw_below_drewN | apply below_drew1) | exact HB.out))) : w.heap.size ≤ g3)); have m3 := Aside0.mk (blk_below (g := g1) (o := (.cells #[.int .i64 a0, .string a1, .int .i64 a2, .int .i64 a3, .int .i64 a4, .int .i64 a5, .int .i64 a6] 37 (0, 0))) (by (with_reducible repeat (first | refine blk_drewN ?_ _ | refine blk_drew ?_ | refine blk_alloc ?_ _)); exact B1.out) hb); have m4 := Aside0.mk ((by rw [hg]; exact (blk_lt (g := g1) (o := (.cells #[.int .i64 a0, .string a1, .int .i64 a2, .int .i64 a3, .int .i64 a4, .int .i64 a5, .int .i64 a6] 37 (0, 0))) (by (with_reducible repeat (first | refine blk_drewN ?_ _ | refine blk_drew ?_ | refine blk_alloc ?_ _)); exact B1.out))) : g1 < g3); have m5 := Aside0.mk (blk_below (g := g2) (o := (.cells #[.slice none 0 0] 25 (0, 0))) (by (with_reducible repeat (first | refine blk_drewN ?_ _ | refine blk_drew ?_ | refine blk_alloc ?_ _)); exact B2.out) hb); have m6 := Aside0.mk ((by rw [hg]; exact (blk_lt (g := g2) (o := (.cells #[.slice none 0 0] 25 (0, 0))) (by (with_reducible repeat (first | refine blk_drewN ?_ _ | refine blk_drew ?_ | refine blk_alloc ?_ _)); exact B2.out))) : g2 < g3); clear HB B1 B2; have HB := m0; have B3 := m1; have G3 := m2; have B1 := m3; have Ng1g3 := m4; have B2 := m5; have Ng2g3 := m6; clear m0 m1 m2 m3 m4 m5 m6; clear hb hbox hg))
  have hk1 : w3.cell? ⟨g1, 0, none⟩ = some (.int .i64 a0) := by
    have q := blk_cell B1.out 0
    simpa using q
  refine (wfi_some a0 os HOS.out g1 w3 hk1).mono ?_
  rintro e w4 ⟨L1, rfl, hb, hL, hlb⟩
  have BL := Aside0.mk hlb
  clear hk1
  have m0 := Aside0.mk (below_step (by repeat (first | (with_reducible first | exact HB.out | apply below_alloc | apply pw_below_drewN | apply below_drew1) | exact HB.out)) hb)
  have m1 := Aside0.mk (blk_below (g := g1) (o := (.cells #[.int .i64 a0, .string a1, .int .i64 a2, .int .i64 a3, .int .i64 a4, .int .i64 a5, .int .i64 a6] 37 (0, 0))) (by (with_reducible repeat (first | refine blk_drewN ?_ _ | refine blk_drew ?_ | refine blk_alloc ?_ _)); exact B1.out) hb)
  have m2 := Aside0.mk (blk_below (g := g2) (o := (.cells #[.slice none 0 0] 25 (0, 0))) (by (with_reducible repeat (first | refine blk_drewN ?_ _ | refine blk_drew ?_ | refine blk_alloc ?_ _)); exact B2.out) hb)
  have m3 := Aside0.mk (blk_below (g := g3) (o := (.cells #[.int .i64 0] 28 (0, 0))) (by (with_reducible repeat (first | refine blk_drewN ?_ _ | refine blk_drew ?_ | refine blk_alloc ?_ _)); exact B3.out) hb)
  clear HB B1 B2 B3
  have HB := m0
  have B1 := m1
  have B2 := m2
  have B3 := m3
  clear m0 m1 m2 m3
  clear hb hL hlb
  have hk1 := blk_cell B1.out 0
  simp only [List.getElem?_toArray, List.getElem?_cons_zero, List.getElem?_cons_succ] at hk1
  go_wp2_with (first | ((with_reducible refine gate_dst (N := 5) rfl ?_); (try (refine gate_guard (by rfl) ?_; dsimp only)); refine box_event ?hg (N := 5) ?hd (cs := #[.int .i64 0, .string ⟨#[]⟩, .int .i64 0, .int .i64 0, .int .i64 0, .int .i64 0, .int .i64 0]) (t := 37) ?hr ?_; (case hd => rfl); (case hg => rfl); (case hr => first | (go_simp; done) | (go_simp; rfl)); intro g5 hg w5 hbox hb; have m0 := Aside0.mk (below_step (by repeat (first | (with_reducible first | exact HB.out | apply below_alloc | apply pw_below_drewN | apply below_drew1) | exact HB.out)) hb); have m1 := Aside0.mk hbox; have m2 := Aside0.mk ((by rw [hg]; exact (below_size (by repeat (first | (with_reducible first | exact HB.out | apply below_alloc | apply pw_below_drewN | apply below_drew1) | exact HB.out))) : w.heap.size ≤ g5)); have m3 := Aside0.mk (blk_below (g := g1) (o := (.cells #[.int .i64 a0, .string a1, .int .i64 a2, .int .i64 a3, .int .i64 a4, .int .i64 a5, .int .i64 a6] 37 (0, 0))) (by (with_reducible repeat (first | refine blk_drewN ?_ _ | refine blk_drew ?_ | refine blk_alloc ?_ _)); exact B1.out) hb); have m4 := Aside0.mk ((by rw [hg]; exact (blk_lt (g := g1) (o := (.cells #[.int .i64 a0, .string a1, .int .i64 a2, .int .i64 a3, .int .i64 a4, .int .i64 a5, .int .i64 a6] 37 (0, 0))) (by (with_reducible repeat (first | refine blk_drewN ?_ _ | refine blk_drew ?_ | refine blk_alloc ?_ _)); exact B1.out))) : g1 < g5); have m5 := Aside0.mk (blk_below (g := g2) (o := (.cells #[.slice none 0 0] 25 (0, 0))) (by (with_reducible repeat (first | refine blk_drewN ?_ _ | refine blk_drew ?_ | refine blk_alloc ?_ _)); exact B2.out) hb); have m6 := Aside0.mk ((by rw [hg]; exact (blk_lt (g := g2) (o := (.cells #[.slice none 0 0] 25 (0, 0))) (by (with_reducible repeat (first | refine blk_drewN ?_ _ | refine blk_drew ?_ | refine blk_alloc ?_ _)); exact B2.out))) : g2 < g5); have m7 := Aside0.mk (blk_below (g := g3) (o := (.cells #[.int .i64 0] 28 (0, 0))) (by (with_reducible repeat (first | refine blk_drewN ?_ _ | refine blk_drew ?_ | refine blk_alloc ?_ _)); exact B3.out) hb); have m8 := Aside0.mk ((by rw [hg]; exact (blk_lt (g := g3) (o := (.cells #[.int .i64 0] 28 (0, 0))) (by (with_reducible repeat (first | refine blk_drewN ?_ _ | refine blk_drew ?_ | refine blk_alloc ?_ _)); exact B3.out))) : g3 < g5); have m9 := Aside0.mk (blk_below (g := L1) (o := (lob (fps 1 g1 os))) (by (with_reducible repeat (first | refine blk_drewN ?_ _ | refine blk_drew ?_ | refine blk_alloc ?_ _)); exact BL.out) hb); have m10 := Aside0.mk ((by rw [hg]; exact (blk_lt (g := L1) (o := (lob (fps 1 g1 os))) (by (with_reducible repeat (first | refine blk_drewN ?_ _ | refine blk_drew ?_ | refine blk_alloc ?_ _)); exact BL.out))) : L1 < g5); clear hk1; clear HB B1 B2 B3 BL; have HB := m0; have B5 := m1; have G5 := m2; have B1 := m3; have Ng1g5 := m4; have B2 := m5; have Ng2g5 := m6; have B3 := m7; have Ng3g5 := m8; have BL := m9; have NL1g5 := m10; clear m0 m1 m2 m3 m4 m5 m6 m7 m8 m9 m10; clear hb hbox hg; have hcB50 := blk_cell B5.out 0; simp only [List.getElem?_toArray, List.getElem?_cons_zero, List.getElem?_cons_succ] at hcB50; have hfB50 := blk_frozen B5.out 0; have hcB51 := blk_cell B5.out 1; simp only [List.getElem?_toArray, List.getElem?_cons_zero, List.getElem?_cons_succ] at hcB51; have hfB51 := blk_frozen B5.out 1; have hcB52 := blk_cell B5.out 2; simp only [List.getElem?_toArray, List.getElem?_cons_zero, List.getElem?_cons_succ] at hcB52; have hfB52 := blk_frozen B5.out 2; have hcB53 := blk_cell B5.out 3; simp only [List.getElem?_toArray, List.getElem?_cons_zero, List.getElem?_cons_succ] at hcB53; have hfB53 := blk_frozen B5.out 3; have hcB54 := blk_cell B5.out 4; simp only [List.getElem?_toArray, List.getElem?_cons_zero, List.getElem?_cons_succ] at hcB54; have hfB54 := blk_frozen B5.out 4; have hcB55 := blk_cell B5.out 5; simp only [List.getElem?_toArray, List.getElem?_cons_zero, List.getElem?_cons_succ] at hcB55; have hfB55 := blk_frozen B5.out 5; have hcB56 := blk_cell B5.out 6; simp only [List.getElem?_toArray, List.getElem?_cons_zero, List.getElem?_cons_succ] at hcB56; have hfB56 := blk_frozen B5.out 6))
  have m5 := (blk_put (cs' := #[.int .i64 a0, .string ⟨#[]⟩, .int .i64 0, .int .i64 0, .int .i64 0, .int .i64 0, .int .i64 0]) (blk_put (cs' := #[.int .i64 a0, .string ⟨#[]⟩, .int .i64 0, .int .i64 0, .int .i64 0, .int .i64 0, .int .i64 0]) (blk_put (cs' := #[.int .i64 a0, .string ⟨#[]⟩, .int .i64 0, .int .i64 0, .int .i64 0, .int .i64 0, .int .i64 0]) (blk_put (cs' := #[.int .i64 a0, .string ⟨#[]⟩, .int .i64 0, .int .i64 0, .int .i64 0, .int .i64 0, .int .i64 0]) (blk_put (cs' := #[.int .i64 a0, .string ⟨#[]⟩, .int .i64 0, .int .i64 0, .int .i64 0, .int .i64 0, .int .i64 0]) (blk_put (cs' := #[.int .i64 a0, .string ⟨#[]⟩, .int .i64 0, .int .i64 0, .int .i64 0, .int .i64 0, .int .i64 0]) (blk_put (cs' := #[.int .i64 a0, .string ⟨#[]⟩, .int .i64 0, .int .i64 0, .int .i64 0, .int .i64 0, .int .i64 0]) B5.out 0 (.int .i64 a0) rfl) 1 (.string ⟨#[]⟩) rfl) 2 (.int .i64 0) rfl) 3 (.int .i64 0) rfl) 4 (.int .i64 0) rfl) 5 (.int .i64 0) rfl) 6 (.int .i64 0) rfl)
  have m1 := (blk_far (p := ⟨g5, 6, none⟩) (blk_far (p := ⟨g5, 5, none⟩) (blk_far (p := ⟨g5, 4, none⟩) (blk_far (p := ⟨g5, 3, none⟩) (blk_far (p := ⟨g5, 2, none⟩) (blk_far (p := ⟨g5, 1, none⟩) (blk_far (p := ⟨g5, 0, none⟩) B1.out (Nat.ne_of_lt Ng1g5.out) (.int .i64 a0)) (Nat.ne_of_lt Ng1g5.out) (.string ⟨#[]⟩)) (Nat.ne_of_lt Ng1g5.out) (.int .i64 0)) (Nat.ne_of_lt Ng1g5.out) (.int .i64 0)) (Nat.ne_of_lt Ng1g5.out) (.int .i64 0)) (Nat.ne_of_lt Ng1g5.out) (.int .i64 0)) (Nat.ne_of_lt Ng1g5.out) (.int .i64 0))
  have m2 := (blk_far (p := ⟨g5, 6, none⟩) (blk_far (p := ⟨g5, 5, none⟩) (blk_far (p := ⟨g5, 4, none⟩) (blk_far (p := ⟨g5, 3, none⟩) (blk_far (p := ⟨g5, 2, none⟩) (blk_far (p := ⟨g5, 1, none⟩) (blk_far (p := ⟨g5, 0, none⟩) B2.out (Nat.ne_of_lt Ng2g5.out) (.int .i64 a0)) (Nat.ne_of_lt Ng2g5.out) (.string ⟨#[]⟩)) (Nat.ne_of_lt Ng2g5.out) (.int .i64 0)) (Nat.ne_of_lt Ng2g5.out) (.int .i64 0)) (Nat.ne_of_lt Ng2g5.out) (.int .i64 0)) (Nat.ne_of_lt Ng2g5.out) (.int .i64 0)) (Nat.ne_of_lt Ng2g5.out) (.int .i64 0))
  have m3 := (blk_far (p := ⟨g5, 6, none⟩) (blk_far (p := ⟨g5, 5, none⟩) (blk_far (p := ⟨g5, 4, none⟩) (blk_far (p := ⟨g5, 3, none⟩) (blk_far (p := ⟨g5, 2, none⟩) (blk_far (p := ⟨g5, 1, none⟩) (blk_far (p := ⟨g5, 0, none⟩) B3.out (Nat.ne_of_lt Ng3g5.out) (.int .i64 a0)) (Nat.ne_of_lt Ng3g5.out) (.string ⟨#[]⟩)) (Nat.ne_of_lt Ng3g5.out) (.int .i64 0)) (Nat.ne_of_lt Ng3g5.out) (.int .i64 0)) (Nat.ne_of_lt Ng3g5.out) (.int .i64 0)) (Nat.ne_of_lt Ng3g5.out) (.int .i64 0)) (Nat.ne_of_lt Ng3g5.out) (.int .i64 0))
  have ml := (blk_far (p := ⟨g5, 6, none⟩) (blk_far (p := ⟨g5, 5, none⟩) (blk_far (p := ⟨g5, 4, none⟩) (blk_far (p := ⟨g5, 3, none⟩) (blk_far (p := ⟨g5, 2, none⟩) (blk_far (p := ⟨g5, 1, none⟩) (blk_far (p := ⟨g5, 0, none⟩) BL.out (Nat.ne_of_lt NL1g5.out) (.int .i64 a0)) (Nat.ne_of_lt NL1g5.out) (.string ⟨#[]⟩)) (Nat.ne_of_lt NL1g5.out) (.int .i64 0)) (Nat.ne_of_lt NL1g5.out) (.int .i64 0)) (Nat.ne_of_lt NL1g5.out) (.int .i64 0)) (Nat.ne_of_lt NL1g5.out) (.int .i64 0)) (Nat.ne_of_lt NL1g5.out) (.int .i64 0))
  have m0 := (((((((HB.out.setCell (p := ⟨g5, 0, none⟩) G5.out (.int .i64 a0)).setCell (p := ⟨g5, 1, none⟩) G5.out (.string ⟨#[]⟩)).setCell (p := ⟨g5, 2, none⟩) G5.out (.int .i64 0)).setCell (p := ⟨g5, 3, none⟩) G5.out (.int .i64 0)).setCell (p := ⟨g5, 4, none⟩) G5.out (.int .i64 0)).setCell (p := ⟨g5, 5, none⟩) G5.out (.int .i64 0)).setCell (p := ⟨g5, 6, none⟩) G5.out (.int .i64 0))
  clear HB B1 B2 B3 B5 BL hcB50 hfB50 hcB51 hfB51 hcB52 hfB52 hcB53 hfB53 hcB54 hfB54 hcB55 hfB55 hcB56 hfB56
  generalize (((((((w5.setCell ⟨g5, 0, none⟩ (.int .i64 a0)).setCell ⟨g5, 1, none⟩ (.string ⟨#[]⟩)).setCell ⟨g5, 2, none⟩ (.int .i64 0)).setCell ⟨g5, 3, none⟩ (.int .i64 0)).setCell ⟨g5, 4, none⟩ (.int .i64 0)).setCell ⟨g5, 5, none⟩ (.int .i64 0)).setCell ⟨g5, 6, none⟩ (.int .i64 0)) = w6 at m0 m1 m2 m3 m5 ml ⊢
  have hk5 : w6.cell? ⟨g5, 0, none⟩ = some (.int .i64 a0) := by
    have q := blk_cell m5 0
    simpa using q
  refine (wfi_some a0 os HOS.out g5 w6 hk5).mono ?_
  rintro e w7 ⟨L2, rfl, hb, hL, hlb⟩
  have N15 := Aside0.mk (Nat.ne_of_lt Ng1g5.out)
  have hcp := wcopied 1 g1 g5 L2 L1 37 os #[.int .i64 a0, .string a1, .int .i64 a2, .int .i64 a3, .int .i64 a4, .int .i64 a5, .int .i64 a6] #[.int .i64 a0, .string ⟨#[]⟩, .int .i64 0, .int .i64 0, .int .i64 0, .int .i64 0, .int .i64 0] w7 hlb (blk_below ml hb) (blk_below m1 hb) (blk_below m5 hb) (Nat.ne_of_lt Ng1g5.out) (by decide) (typed_req a0 a1 a2 a3 a4 a5 a6) (offs_req HOS.out).1 rfl (offs_req HOS.out).2
  have HB := Aside0.mk (below_step m0 hb)
  have B1 := Aside0.mk (blk_below m1 hb)
  have B2 := Aside0.mk (blk_below m2 hb)
  have B3 := Aside0.mk (blk_below m3 hb)
  have BL := Aside0.mk (blk_below ml hb)
  clear m0 m1 m2 m3 m5 ml hb hL hlb hk5
  go_wp2_with (fail)
  refine hcp.mono ?_
  clear hcp
  rintro e w8 ⟨rfl, h5, hfar, hbw⟩
  have q1 := (hfar g1 N15.out).trans B1.out
  have q2 := (hfar g2 (Nat.ne_of_lt Ng2g5.out)).trans B2.out
  have q3 := (hfar g3 (Nat.ne_of_lt Ng3g5.out)).trans B3.out
  have ql := (hfar L1 (Nat.ne_of_lt NL1g5.out)).trans BL.out
  have q0 := HB.out.trans (hbw w.heap.size G5.out)
  rw [cpy_req os a0 a1 a2 a3 a4 a5 a6 HOS.out] at h5
  clear HB B1 B2 B3 BL hfar hbw
  have HB := Aside0.mk q0
  have B1 := Aside0.mk q1
  have B2 := Aside0.mk q2
  have B3 := Aside0.mk q3
  have BL := Aside0.mk ql
  have hEq : ∀ w, (binOp .eql 37 (.agg #[.int .i64 a0, .string (pickS os 1 a1), .int .i64 (pickN os 2 a2), .int .i64 (pickN os 3 a3), .int .i64 (pickN os 4 a4), .int .i64 (pickN os 5 a5), .int .i64 (pickN os 6 a6)]) (.agg #[.int .i64 a0, .string a1, .int .i64 a2, .int .i64 a3, .int .i64 a4, .int .i64 a5, .int .i64 a6])).run Try.prog w = .ok (.bool false) w := by
    intro w
    rw [wneq_req, ← HPL.out]
    simp [reqPlain]
  obtain ⟨p1, hp1⟩ : ∃ p, pickS os 1 a1 = p := ⟨_, rfl⟩
  obtain ⟨p2, hp2⟩ : ∃ p, pickN os 2 a2 = p := ⟨_, rfl⟩
  obtain ⟨p3, hp3⟩ : ∃ p, pickN os 3 a3 = p := ⟨_, rfl⟩
  obtain ⟨p4, hp4⟩ : ∃ p, pickN os 4 a4 = p := ⟨_, rfl⟩
  obtain ⟨p5, hp5⟩ : ∃ p, pickN os 5 a5 = p := ⟨_, rfl⟩
  obtain ⟨p6, hp6⟩ : ∃ p, pickN os 6 a6 = p := ⟨_, rfl⟩
  simp only [hp1, hp2, hp3, hp4, hp5, hp6] at h5 hEq
  clear q0 q1 q2 q3 ql hp1 hp2 hp3 hp4 hp5 hp6
  have B5 := Aside0.mk h5
  clear h5
  have hcB50 := blk_cell B5.out 0
  simp only [List.getElem?_toArray, List.getElem?_cons_zero, List.getElem?_cons_succ] at hcB50
  have hcB51 := blk_cell B5.out 1
  simp only [List.getElem?_toArray, List.getElem?_cons_zero, List.getElem?_cons_succ] at hcB51
  have hcB52 := blk_cell B5.out 2
  simp only [List.getElem?_toArray, List.getElem?_cons_zero, List.getElem?_cons_succ] at hcB52
  have hcB53 := blk_cell B5.out 3
  simp only [List.getElem?_toArray, List.getElem?_cons_zero, List.getElem?_cons_succ] at hcB53
  have hcB54 := blk_cell B5.out 4
  simp only [List.getElem?_toArray, List.getElem?_cons_zero, List.getElem?_cons_succ] at hcB54
  have hcB55 := blk_cell B5.out 5
  simp only [List.getElem?_toArray, List.getElem?_cons_zero, List.getElem?_cons_succ] at hcB55
  have hcB56 := blk_cell B5.out 6
  simp only [List.getElem?_toArray, List.getElem?_cons_zero, List.getElem?_cons_succ] at hcB56
  have hcB10 := blk_cell B1.out 0
  simp only [List.getElem?_toArray, List.getElem?_cons_zero, List.getElem?_cons_succ] at hcB10
  have hcB11 := blk_cell B1.out 1
  simp only [List.getElem?_toArray, List.getElem?_cons_zero, List.getElem?_cons_succ] at hcB11
  have hcB12 := blk_cell B1.out 2
  simp only [List.getElem?_toArray, List.getElem?_cons_zero, List.getElem?_cons_succ] at hcB12
  have hcB13 := blk_cell B1.out 3
  simp only [List.getElem?_toArray, List.getElem?_cons_zero, List.getElem?_cons_succ] at hcB13
  have hcB14 := blk_cell B1.out 4
  simp only [List.getElem?_toArray, List.getElem?_cons_zero, List.getElem?_cons_succ] at hcB14
  have hcB15 := blk_cell B1.out 5
  simp only [List.getElem?_toArray, List.getElem?_cons_zero, List.getElem?_cons_succ] at hcB15
  have hcB16 := blk_cell B1.out 6
  simp only [List.getElem?_toArray, List.getElem?_cons_zero, List.getElem?_cons_succ] at hcB16
  have hnn := fun (w : World) => run_neq_slice_nil_any (P := Try.prog) w 52 20 (some ⟨L1, 0, none⟩) os.length os.length 0 0 Try.underlying52
  go_wp2_with (first | ((go_at_call 27); (with_reducible refine (must_bad _).mono ?_); rintro e wm ⟨rfl, rfl⟩))
  refine doorB_bad 38 clBytes_bad (fun _ _ _ => by simp [go_sem]) Try.f15 rfl _ g2 g3 w.heap.size rfl rfl 0 (.slice none 0 0) w _ HB.out (below_size HB.out) G2.out G3.out B2.out B3.out _ ?_
  intro w' hb
  exact ⟨rfl, hb⟩

set_option maxHeartbeats 8000000 in
set_option maxRecDepth 100000 in
theorem wBytes_some (k : Nat) (os : List Nat) (t0 : List Int) (RES : Option (List Int)) (a0 : Int) (a1 : ByteArray) (a2 : Int) (a3 : Int) (a4 : Int) (a5 : Int) (a6 : Int) (w : World) (ho : reqOffs a0 = some os) (hpl : reqPlain os a1 a2 a3 a4 a5 a6 = true) (ht : code_Num.f k (IntKind.u64.wrap a0) = some t0) (hres : wireWr k (reqFlds os a0 a1 a2 a3 a4 a5 a6) t0 = some RES) :
    Calls Try.prog 15 #[.agg #[.int .i64 a0, .string a1, .int .i64 a2, .int .i64 a3, .int .i64 a4, .int .i64 a5, .int .i64 a6]] w fun e w' => ((∃ r v, RES = some r ∧ e = .returned (.tuple #[v, .int .i64 0]) ∧ Kd.R (Kd.int .u8) 5 w' w.heap.size (fun _ => True) v r) ∨ (RES = none ∧ e = .returned (.tuple #[.slice none 0 0, .int .i64 220]))) ∧ Below w.heap.size w w' := by
  have HB := Aside0.mk (Below.refl w.heap.size w)
  have hmf : ∀ (fn : Fn) (first cap : Array Value) (w : World), (Instr.makeFunc fn first cap).run Try.prog w = .ok (.func fn first cap) w := fun _ _ _ _ => rfl
  have HOS := Aside0.mk ho
  have HPL := Aside0.mk hpl
  have HT := Aside0.mk ht
  have HRES := Aside0.mk hres
  clear ho hpl ht hres
  go_enter_defers Try.func15, Try.ntmps15
  go_wp2_with (first | ((with_reducible refine gate_dst (N := 1) rfl ?_); (try (refine gate_guard (by rfl) ?_; dsimp only)); refine box_event ?hg (N := 1) ?hd (cs := #[.int .i64 a0, .string a1, .int .i64 a2, .int .i64 a3, .int .i64 a4, .int .i64 a5, .int .i64 a6]) (t := 37) ?hr ?_; (case hd => rfl); (case hg => rfl); (case hr => first | (go_simp; done) | (go_simp; rfl)); intro g1 hg w1 hbox hb; have m0 := Aside0.mk (below_step (by repeat (first | (with_reducible first | exact HB.out | apply below_alloc | apply pw_below_drewN | apply below_drew1) | exact HB.out)) hb); have m1 := Aside0.mk hbox; have m2 := Aside0.mk ((by rw [hg]; exact (below_size (by repeat (first | (with_reducible first | exact HB.out | apply below_alloc | apply pw_below_drewN | apply below_drew1) | exact HB.out))) : w.heap.size ≤ g1)); clear HB ; have HB := m0; have B1 := m1; have G1 := m2; clear m0 m1 m2; clear hb hbox hg) | ((with_reducible refine gate_dst (N := 2) rfl ?_); (try (refine gate_guard (by rfl) ?_; dsimp only)); refine box_event ?hg (N := 2) ?hd (cs := #[.slice none 0 0]) (t := 25) ?hr ?_; (case hd => rfl); (case hg => rfl); (case hr => first | (go_simp; done) | (go_simp; rfl)); intro g2 hg w2 hbox hb; have m0 := Aside0.mk (below_step (by repeat (first | (with_reducible first | exact HB.out | apply below_alloc | apply pw_below_drewN | apply below_drew1) | exact HB.out)) hb); have m1 := Aside0.mk hbox; have m2 := Aside0.mk ((by rw [hg]; exact (below_size (by repeat (first | (with_reducible first | exact HB.out | apply below_alloc | apply pw_below_drewN | apply below_drew1) | exact HB.out))) : w.heap.size ≤ g2)); have m3 := Aside0.mk (blk_below (g := g1) (o := (.cells #[.int .i64 a0, .string a1, .int .i64 a2, .int .i64 a3, .int .i64 a4, .int .i64 a5, .int .i64 a6] 37 (0, 0))) (by (with_reducible repeat (first | refine blk_drewN ?_ _ | refine blk_drew ?_ | refine blk_alloc ?_ _)); exact B1.out) hb); have m4 := Aside0.mk ((by rw [hg]; exact (blk_lt (g := g1) (o := (.cells #[.int .i64 a0, .string a1, .int .i64 a2, .int .i64 a3, .int .i64 a4, .int .i64 a5, .int .i64 a6] 37 (0, 0))) (by (with_reducible repeat (first | refine blk_drewN ?_ _ | refine blk_drew ?_ | refine blk_alloc ?_ _)); exact B1.out))) : g1 < g2); clear HB B1; have HB := m0; have B2 := m1; have G2 := m2; have B1 := m3; have Ng1g2 := m4; clear m0 m1 m2 m3 m4; clear hb hbox hg) | ((with_reducible refine gate_dst (N := 3) rfl ?_); (try (refine gate_guard (by rfl) ?_; dsimp only)); refine box_event ?hg (N := 3) ?hd (cs := #[.int .i64 0]) (t := 28) ?hr ?_; (case hd => rfl); (case hg => rfl); (case hr => first | (go_simp; done) | (go_simp; rfl)); intro g3 hg w3 hbox hb; have m0 := Aside0.mk (below_step (by repeat (first | (with_reducible first | exact HB.out | apply below_alloc | apply pw_below_drewN | apply below_drew1) | exact HB.out)) hb); have m1 := Aside0.mk hbox; have m2 := Aside0.mk ((by rw [hg]; exact (below_size (by repeat (first | (with_reducible first | exact HB.out | apply below_alloc | apply pw_below_drewN | apply below_drew1) | exact HB.out))) : w.heap.size ≤ g3)); have m3 := Aside0.mk (blk_below (g := g1) (o := (.cells #[.int .i64 a0, .string a1, .int .i64 a2, .int .i64 a3, .int .i64 a4, .int .i64 a5, .int .i64 a6] 37 (0, 0))) (by (with_reducible repeat (first | refine blk_drewN ?_ _ | refine blk_drew ?_ | refine blk_alloc ?_ _)); exact B1.out) hb); have m4 := Aside0.mk ((by rw [hg]; exact (blk_lt (g := g1) (o := (.cells #[.int .i64 a0, .string a1, .int .i64 a2, .int .i64 a3, .int .i64 a4, .int .i64 a5, .int .i64 a6] 37 (0, 0))) (by (with_reducible repeat (first | refine blk_drewN ?_ _ | refine blk_drew ?_ | refine blk_alloc ?_ _)); exact B1.out))) : g1 < g3); have m5 := Aside0.mk (blk_below (g := g2) (o := (.cells #[.slice none 0 0] 25 (0, 0))) (by (with_reducible repeat (first | refine blk_drewN ?_ _ | refine blk_drew ?_ | refine blk_alloc ?_ _)); exact B2.out) hb); have m6 := Aside0.mk ((by rw [hg]; exact (blk_lt (g := g2) (o := (.cells #[.slice none 0 0] 25 (0, 0))) (by (with_reducible repeat (first | refine blk_drewN ?_ _ | refine blk_drew ?_ | refine blk_alloc ?_ _)); exact B2.out))) : g2 < g3); clear HB B1 B2; have HB := m0; have B3 := m1; have G3 := m2; have B1 := m3; have Ng1g3 := m4; have B2 := m5; have Ng2g3 := m6; clear m0 m1 m2 m3 m4 m5 m6; clear hb hbox hg))
  have hk1 : w3.cell? ⟨g1, 0, none⟩ = some (.int .i64 a0) := by
    have q := blk_cell B1.out 0
    simpa using q
  refine (wfi_some a0 os HOS.out g1 w3 hk1).mono ?_
  rintro e w4 ⟨L1, rfl, hb, hL, hlb⟩
  have BL := Aside0.mk hlb
  clear hk1
  have m0 := Aside0.mk (below_step (by repeat (first | (with_reducible first | exact HB.out | apply below_alloc | apply pw_below_drewN | apply below_drew1) | exact HB.out)) hb)
  have m1 := Aside0.mk (blk_below (g := g1) (o := (.cells #[.int .i64 a0, .string a1, .int .i64 a2, .int .i64 a3, .int .i64 a4, .int .i64 a5, .int .i64 a6] 37 (0, 0))) (by (with_reducible repeat (first | refine blk_drewN ?_ _ | refine blk_drew ?_ | refine blk_alloc ?_ _)); exact B1.out) hb)
  have m2 := Aside0.mk (blk_below (g := g2) (o := (.cells #[.slice none 0 0] 25 (0, 0))) (by (with_reducible repeat (first | refine blk_drewN ?_ _ | refine blk_drew ?_ | refine blk_alloc ?_ _)); exact B2.out) hb)
  have m3 := Aside0.mk (blk_below (g := g3) (o := (.cells #[.int .i64 0] 28 (0, 0))) (by (with_reducible repeat (first | refine blk_drewN ?_ _ | refine blk_drew ?_ | refine blk_alloc ?_ _)); exact B3.out) hb)
  clear HB B1 B2 B3
  have HB := m0
  have B1 := m1
  have B2 := m2
  have B3 := m3
  clear m0 m1 m2 m3
  clear hb hL hlb
  have hk1 := blk_cell B1.out 0
  simp only [List.getElem?_toArray, List.getElem?_cons_zero, List.getElem?_cons_succ] at hk1
  go_wp2_with (first | ((with_reducible refine gate_dst (N := 5) rfl ?_); (try (refine gate_guard (by rfl) ?_; dsimp only)); refine box_event ?hg (N := 5) ?hd (cs := #[.int .i64 0, .string ⟨#[]⟩, .int .i64 0, .int .i64 0, .int .i64 0, .int .i64 0, .int .i64 0]) (t := 37) ?hr ?_; (case hd => rfl); (case hg => rfl); (case hr => first | (go_simp; done) | (go_simp; rfl)); intro g5 hg w5 hbox hb; have m0 := Aside0.mk (below_step (by repeat (first | (with_reducible first | exact HB.out | apply below_alloc | apply pw_below_drewN | apply below_drew1) | exact HB.out)) hb); have m1 := Aside0.mk hbox; have m2 := Aside0.mk ((by rw [hg]; exact (below_size (by repeat (first | (with_reducible first | exact HB.out | apply below_alloc | apply pw_below_drewN | apply below_drew1) | exact HB.out))) : w.heap.size ≤ g5)); have m3 := Aside0.mk (blk_below (g := g1) (o := (.cells #[.int .i64 a0, .string a1, .int .i64 a2, .int .i64 a3, .int .i64 a4, .int .i64 a5, .int .i64 a6] 37 (0, 0))) (by (with_reducible repeat (first | refine blk_drewN ?_ _ | refine blk_drew ?_ | refine blk_alloc ?_ _)); exact B1.out) hb); have m4 := Aside0.mk ((by rw [hg]; exact (blk_lt (g := g1) (o := (.cells #[.int .i64 a0, .string a1, .int .i64 a2, .int .i64 a3, .int .i64 a4, .int .i64 a5, .int .i64 a6] 37 (0, 0))) (by (with_reducible repeat (first | refine blk_drewN ?_ _ | refine blk_drew ?_ | refine blk_alloc ?_ _)); exact B1.out))) : g1 < g5); have m5 := Aside0.mk (blk_below (g := g2) (o := (.cells #[.slice none 0 0] 25 (0, 0))) (by (with_reducible repeat (first | refine blk_drewN ?_ _ | refine blk_drew ?_ | refine blk_alloc ?_ _)); exact B2.out) hb); have m6 := Aside0.mk ((by rw [hg]; exact (blk_lt (g := g2) (o := (.cells #[.slice none 0 0] 25 (0, 0))) (by (with_reducible repeat (first | refine blk_drewN ?_ _ | refine blk_drew ?_ | refine blk_alloc ?_ _)); exact B2.out))) : g2 < g5); have m7 := Aside0.mk (blk_below (g := g3) (o := (.cells #[.int .i64 0] 28 (0, 0))) (by (with_reducible repeat (first | refine blk_drewN ?_ _ | refine blk_drew ?_ | refine blk_alloc ?_ _)); exact B3.out) hb); have m8 := Aside0.mk ((by rw [hg]; exact (blk_lt (g := g3) (o := (.cells #[.int .i64 0] 28 (0, 0))) (by (with_reducible repeat (first | refine blk_drewN ?_ _ | refine blk_drew ?_ | refine blk_alloc ?_ _)); exact B3.out))) : g3 < g5); have m9 := Aside0.mk (blk_below (g := L1) (o := (lob (fps 1 g1 os))) (by (with_reducible repeat (first | refine blk_drewN ?_ _ | refine blk_drew ?_ | refine blk_alloc ?_ _)); exact BL.out) hb); have m10 := Aside0.mk ((by rw [hg]; exact (blk_lt (g := L1) (o := (lob (fps 1 g1 os))) (by (with_reducible repeat (first | refine blk_drewN ?_ _ | refine blk_drew ?_ | refine blk_alloc ?_ _)); exact BL.out))) : L1 < g5); clear hk1; clear HB B1 B2 B3 BL; have HB := m0; have B5 := m1; have G5 := m2; have B1 := m3; have Ng1g5 := m4; have B2 := m5; have Ng2g5 := m6; have B3 := m7; have Ng3g5 := m8; have BL := m9; have NL1g5 := m10; clear m0 m1 m2 m3 m4 m5 m6 m7 m8 m9 m10; clear hb hbox hg; have hcB50 := blk_cell B5.out 0; simp only [List.getElem?_toArray, List.getElem?_cons_zero, List.getElem?_cons_succ] at hcB50; have hfB50 := blk_frozen B5.out 0; have hcB51 := blk_cell B5.out 1; simp only [List.getElem?_toArray, List.getElem?_cons_zero, List.getElem?_cons_succ] at hcB51; have hfB51 := blk_frozen B5.out 1; have hcB52 := blk_cell B5.out 2; simp only [List.getElem?_toArray, List.getElem?_cons_zero, List.getElem?_cons_succ] at hcB52; have hfB52 := blk_frozen B5.out 2; have hcB53 := blk_cell B5.out 3; simp only [List.getElem?_toArray, List.getElem?_cons_zero, List.getElem?_cons_succ] at hcB53; have hfB53 := blk_frozen B5.out 3; have hcB54 := blk_cell B5.out 4; simp only [List.getElem?_toArray, List.getElem?_cons_zero, List.getElem?_cons_succ] at hcB54; have hfB54 := blk_frozen B5.out 4; have hcB55 := blk_cell B5.out 5; simp only [List.getElem?_toArray, List.getElem?_cons_zero, List.getElem?_cons_succ] at hcB55; have hfB55 := blk_frozen B5.out 5; have hcB56 := blk_cell B5.out 6; simp only [List.getElem?_toArray, List.getElem?_cons_zero, List.getElem?_cons_succ] at hcB56; have hfB56 := blk_frozen B5.out 6))
  have m5 := (blk_put (cs' := #[.int .i64 a0, .string ⟨#[]⟩, .int .i64 0, .int .i64 0, .int .i64 0, .int .i64 0, .int .i64 0]) (blk_put (cs' := #[.int .i64 a0, .string ⟨#[]⟩, .int .i64 0, .int .i64 0, .int .i64 0, .int .i64 0, .int .i64 0]) (blk_put (cs' := #[.int .i64 a0, .string ⟨#[]⟩, .int .i64 0, .int .i64 0, .int .i64 0, .int .i64 0, .int .i64 0]) (blk_put (cs' := #[.int .i64 a0, .string ⟨#[]⟩, .int .i64 0, .int .i64 0, .int .i64 0, .int .i64 0, .int .i64 0]) (blk_put (cs' := #[.int .i64 a0, .string ⟨#[]⟩, .int .i64 0, .int .i64 0, .int .i64 0, .int .i64 0, .int .i64 0]) (blk_put (cs' := #[.int .i64 a0, .string ⟨#[]⟩, .int .i64 0, .int .i64 0, .int .i64 0, .int .i64 0, .int .i64 0]) (blk_put (cs' := #[.int .i64 a0, .string ⟨#[]⟩, .int .i64 0, .int .i64 0, .int .i64 0, .int .i64 0, .int .i64 0]) B5.out 0 (.int .i64 a0) rfl) 1 (.string ⟨#[]⟩) rfl) 2 (.int .i64 0) rfl) 3 (.int .i64 0) rfl) 4 (.int .i64 0) rfl) 5 (.int .i64 0) rfl) 6 (.int .i64 0) rfl)
  have m1 := (blk_far (p := ⟨g5, 6, none⟩) (blk_far (p := ⟨g5, 5, none⟩) (blk_far (p := ⟨g5, 4, none⟩) (blk_far (p := ⟨g5, 3, none⟩) (blk_far (p := ⟨g5, 2, none⟩) (blk_far (p := ⟨g5, 1, none⟩) (blk_far (p := ⟨g5, 0, none⟩) B1.out (Nat.ne_of_lt Ng1g5.out) (.int .i64 a0)) (Nat.ne_of_lt Ng1g5.out) (.string ⟨#[]⟩)) (Nat.ne_of_lt Ng1g5.out) (.int .i64 0)) (Nat.ne_of_lt Ng1g5.out) (.int .i64 0)) (Nat.ne_of_lt Ng1g5.out) (.int .i64 0)) (Nat.ne_of_lt Ng1g5.out) (.int .i64 0)) (Nat.ne_of_lt Ng1g5.out) (.int .i64 0))
  have m2 := (blk_far (p := ⟨g5, 6, none⟩) (blk_far (p := ⟨g5, 5, none⟩) (blk_far (p := ⟨g5, 4, none⟩) (blk_far (p := ⟨g5, 3, none⟩) (blk_far (p := ⟨g5, 2, none⟩) (blk_far (p := ⟨g5, 1, none⟩) (blk_far (p := ⟨g5, 0, none⟩) B2.out (Nat.ne_of_lt Ng2g5.out) (.int .i64 a0)) (Nat.ne_of_lt Ng2g5.out) (.string ⟨#[]⟩)) (Nat.ne_of_lt Ng2g5.out) (.int .i64 0)) (Nat.ne_of_lt Ng2g5.out) (.int .i64 0)) (Nat.ne_of_lt Ng2g5.out) (.int .i64 0)) (Nat.ne_of_lt Ng2g5.out) (.int .i64 0)) (Nat.ne_of_lt Ng2g5.out) (.int .i64 0))
  have m3 := (blk_far (p := ⟨g5, 6, none⟩) (blk_far (p := ⟨g5, 5, none⟩) (blk_far (p := ⟨g5, 4, none⟩) (blk_far (p := ⟨g5, 3, none⟩) (blk_far (p := ⟨g5, 2, none⟩) (blk_far (p := ⟨g5, 1, none⟩) (blk_far (p := ⟨g5, 0, none⟩) B3.out (Nat.ne_of_lt Ng3g5.out) (.int .i64 a0)) (Nat.ne_of_lt Ng3g5.out) (.string ⟨#[]⟩)) (Nat.ne_of_lt Ng3g5.out) (.int .i64 0)) (Nat.ne_of_lt Ng3g5.out) (.int .i64 0)) (Nat.ne_of_lt Ng3g5.out) (.int .i64 0)) (Nat.ne_of_lt Ng3g5.out) (.int .i64 0)) (Nat.ne_of_lt Ng3g5.out) (.int .i64 0))
  have ml := (blk_far (p := ⟨g5, 6, none⟩) (blk_far (p := ⟨g5, 5, none⟩) (blk_far (p := ⟨g5, 4, none⟩) (blk_far (p := ⟨g5, 3, none⟩) (blk_far (p := ⟨g5, 2, none⟩) (blk_far (p := ⟨g5, 1, none⟩) (blk_far (p := ⟨g5, 0, none⟩) BL.out (Nat.ne_of_lt NL1g5.out) (.int .i64 a0)) (Nat.ne_of_lt NL1g5.out) (.string ⟨#[]⟩)) (Nat.ne_of_lt NL1g5.out) (.int .i64 0)) (Nat.ne_of_lt NL1g5.out) (.int .i64 0)) (Nat.ne_of_lt NL1g5.out) (.int .i64 0)) (Nat.ne_of_lt NL1g5.out) (.int .i64 0)) (Nat.ne_of_lt NL1g5.out) (.int .i64 0))
  have m0 := (((((((HB.out.setCell (p := ⟨g5, 0, none⟩) G5.out (.int .i64 a0)).setCell (p := ⟨g5, 1, none⟩) G5.out (.string ⟨#[]⟩)).setCell (p := ⟨g5, 2, none⟩) G5.out (.int .i64 0)).setCell (p := ⟨g5, 3, none⟩) G5.out (.int .i64 0)).setCell (p := ⟨g5, 4, none⟩) G5.out (.int .i64 0)).setCell (p := ⟨g5, 5, none⟩) G5.out (.int .i64 0)).setCell (p := ⟨g5, 6, none⟩) G5.out (.int .i64 0))
  clear HB B1 B2 B3 B5 BL hcB50 hfB50 hcB51 hfB51 hcB52 hfB52 hcB53 hfB53 hcB54 hfB54 hcB55 hfB55 hcB56 hfB56
  generalize (((((((w5.setCell ⟨g5, 0, none⟩ (.int .i64 a0)).setCell ⟨g5, 1, none⟩ (.string ⟨#[]⟩)).setCell ⟨g5, 2, none⟩ (.int .i64 0)).setCell ⟨g5, 3, none⟩ (.int .i64 0)).setCell ⟨g5, 4, none⟩ (.int .i64 0)).setCell ⟨g5, 5, none⟩ (.int .i64 0)).setCell ⟨g5, 6, none⟩ (.int .i64 0)) = w6 at m0 m1 m2 m3 m5 ml ⊢
  have hk5 : w6.cell? ⟨g5, 0, none⟩ = some (.int .i64 a0) := by
    have q := blk_cell m5 0
    simpa using q
  refine (wfi_some a0 os HOS.out g5 w6 hk5).mono ?_
  rintro e w7 ⟨L2, rfl, hb, hL, hlb⟩
  have N15 := Aside0.mk (Nat.ne_of_lt Ng1g5.out)
  have hcp := wcopied 1 g1 g5 L2 L1 37 os #[.int .i64 a0, .string a1, .int .i64 a2, .int .i64 a3, .int .i64 a4, .int .i64 a5, .int .i64 a6] #[.int .i64 a0, .string ⟨#[]⟩, .int .i64 0, .int .i64 0, .int .i64 0, .int .i64 0, .int .i64 0] w7 hlb (blk_below ml hb) (blk_below m1 hb) (blk_below m5 hb) (Nat.ne_of_lt Ng1g5.out) (by decide) (typed_req a0 a1 a2 a3 a4 a5 a6) (offs_req HOS.out).1 rfl (offs_req HOS.out).2
  have HB := Aside0.mk (below_step m0 hb)
  have B1 := Aside0.mk (blk_below m1 hb)
  have B2 := Aside0.mk (blk_below m2 hb)
  have B3 := Aside0.mk (blk_below m3 hb)
  have BL := Aside0.mk (blk_below ml hb)
  clear m0 m1 m2 m3 m5 ml hb hL hlb hk5
  go_wp2_with (fail)
  refine hcp.mono ?_
  clear hcp
  rintro e w8 ⟨rfl, h5, hfar, hbw⟩
  have q1 := (hfar g1 N15.out).trans B1.out
  have q2 := (hfar g2 (Nat.ne_of_lt Ng2g5.out)).trans B2.out
  have q3 := (hfar g3 (Nat.ne_of_lt Ng3g5.out)).trans B3.out
  have ql := (hfar L1 (Nat.ne_of_lt NL1g5.out)).trans BL.out
  have q0 := HB.out.trans (hbw w.heap.size G5.out)
  rw [cpy_req os a0 a1 a2 a3 a4 a5 a6 HOS.out] at h5
  clear HB B1 B2 B3 BL hfar hbw
  have HB := Aside0.mk q0
  have B1 := Aside0.mk q1
  have B2 := Aside0.mk q2
  have B3 := Aside0.mk q3
  have BL := Aside0.mk ql
  have hEq : ∀ w, (binOp .eql 37 (.agg #[.int .i64 a0, .string (pickS os 1 a1), .int .i64 (pickN os 2 a2), .int .i64 (pickN os 3 a3), .int .i64 (pickN os 4 a4), .int .i64 (pickN os 5 a5), .int .i64 (pickN os 6 a6)]) (.agg #[.int .i64 a0, .string a1, .int .i64 a2, .int .i64 a3, .int .i64 a4, .int .i64 a5, .int .i64 a6])).run Try.prog w = .ok (.bool true) w := by
    intro w
    rw [wneq_req, ← HPL.out]
    simp [reqPlain]
  obtain ⟨p1, hp1⟩ : ∃ p, pickS os 1 a1 = p := ⟨_, rfl⟩
  obtain ⟨p2, hp2⟩ : ∃ p, pickN os 2 a2 = p := ⟨_, rfl⟩
  obtain ⟨p3, hp3⟩ : ∃ p, pickN os 3 a3 = p := ⟨_, rfl⟩
  obtain ⟨p4, hp4⟩ : ∃ p, pickN os 4 a4 = p := ⟨_, rfl⟩
  obtain ⟨p5, hp5⟩ : ∃ p, pickN os 5 a5 = p := ⟨_, rfl⟩
  obtain ⟨p6, hp6⟩ : ∃ p, pickN os 6 a6 = p := ⟨_, rfl⟩
  simp only [hp1, hp2, hp3, hp4, hp5, hp6] at h5 hEq
  clear q0 q1 q2 q3 ql hp1 hp2 hp3 hp4 hp5 hp6
  have B5 := Aside0.mk h5
  clear h5
  have hcB50 := blk_cell B5.out 0
  simp only [List.getElem?_toArray, List.getElem?_cons_zero, List.getElem?_cons_succ] at hcB50
  have hcB51 := blk_cell B5.out 1
  simp only [List.getElem?_toArray, List.getElem?_cons_zero, List.getElem?_cons_succ] at hcB51
  have hcB52 := blk_cell B5.out 2
  simp only [List.getElem?_toArray, List.getElem?_cons_zero, List.getElem?_cons_succ] at hcB52
  have hcB53 := blk_cell B5.out 3
  simp only [List.getElem?_toArray, List.getElem?_cons_zero, List.getElem?_cons_succ] at hcB53
  have hcB54 := blk_cell B5.out 4
  simp only [List.getElem?_toArray, List.getElem?_cons_zero, List.getElem?_cons_succ] at hcB54
  have hcB55 := blk_cell B5.out 5
  simp only [List.getElem?_toArray, List.getElem?_cons_zero, List.getElem?_cons_succ] at hcB55
  have hcB56 := blk_cell B5.out 6
  simp only [List.getElem?_toArray, List.getElem?_cons_zero, List.getElem?_cons_succ] at hcB56
  have hcB10 := blk_cell B1.out 0
  simp only [List.getElem?_toArray, List.getElem?_cons_zero, List.getElem?_cons_succ] at hcB10
  have hcB11 := blk_cell B1.out 1
  simp only [List.getElem?_toArray, List.getElem?_cons_zero, List.getElem?_cons_succ] at hcB11
  have hcB12 := blk_cell B1.out 2
  simp only [List.getElem?_toArray, List.getElem?_cons_zero, List.getElem?_cons_succ] at hcB12
  have hcB13 := blk_cell B1.out 3
  simp only [List.getElem?_toArray, List.getElem?_cons_zero, List.getElem?_cons_succ] at hcB13
  have hcB14 := blk_cell B1.out 4
  simp only [List.getElem?_toArray, List.getElem?_cons_zero, List.getElem?_cons_succ] at hcB14
  have hcB15 := blk_cell B1.out 5
  simp only [List.getElem?_toArray, List.getElem?_cons_zero, List.getElem?_cons_succ] at hcB15
  have hcB16 := blk_cell B1.out 6
  simp only [List.getElem?_toArray, List.getElem?_cons_zero, List.getElem?_cons_succ] at hcB16
  have hnn := fun (w : World) => run_neq_slice_nil_any (P := Try.prog) w 52 20 (some ⟨L1, 0, none⟩) os.length os.length 0 0 Try.underlying52
  go_wp2_with (first | ((go_at_call 27); (with_reducible refine (must_ok _).mono ?_); rintro e wm ⟨rfl, rfl⟩) | ((with_reducible refine gate_callee (f := 29) rfl ?_); refine goesL_ (some 25) rfl rfl Try.func29 (by kernel_rfl) rfl #[.int .u64 (IntKind.u64.wrap a0)] rfl (by (try simp only [List.map_toArray, List.map_cons, List.map_nil]); first | done | rfl) ?_; (with_reducible refine (code_Num.calls k (IntKind.u64.wrap a0) t0 _ HT.out).mono ?_); rintro e w9 ⟨v9, rfl, hrow, hb⟩; refine ⟨_, rfl, ?_⟩; have HROW := Aside0.mk (Kd.R_lower hrow (below_size HB.out)); have m9 := Aside0.mk (blk_below BL.out hb); clear hcB10 hcB11 hcB12 hcB13 hcB14 hcB15 hcB16; clear hcB50 hcB51 hcB52 hcB53 hcB54 hcB55 hcB56; clear B5; have m0 := Aside0.mk (below_step (by repeat (first | (with_reducible first | exact HB.out | apply below_alloc | apply pw_below_drewN | apply below_drew1) | exact HB.out)) hb); have m1 := Aside0.mk (blk_below (g := g1) (o := (.cells #[.int .i64 a0, .string a1, .int .i64 a2, .int .i64 a3, .int .i64 a4, .int .i64 a5, .int .i64 a6] 37 (0, 0))) (by (with_reducible repeat (first | refine blk_drewN ?_ _ | refine blk_drew ?_ | refine blk_alloc ?_ _)); exact B1.out) hb); have m2 := Aside0.mk (blk_below (g := g2) (o := (.cells #[.slice none 0 0] 25 (0, 0))) (by (with_reducible repeat (first | refine blk_drewN ?_ _ | refine blk_drew ?_ | refine blk_alloc ?_ _)); exact B2.out) hb); have m3 := Aside0.mk (blk_below (g := g3) (o := (.cells #[.int .i64 0] 28 (0, 0))) (by (with_reducible repeat (first | refine blk_drewN ?_ _ | refine blk_drew ?_ | refine blk_alloc ?_ _)); exact B3.out) hb); clear HB B1 B2 B3; have HB := m0; have B1 := m1; have B2 := m2; have B3 := m3; clear m0 m1 m2 m3; clear BL; have BL := m9; clear m9 hb hrow))
  have hww := wwritten k L1 w.heap.size (fps 1 g1 os) (reqFlds os a0 a1 a2 a3 a4 a5 a6) v9 t0 RES _ BL.out (by simp [fps, reqFlds]) (fields_ok B1.out (typed_req a0 a1 a2 a3 a4 a5 a6) (offs_req HOS.out).1 (by decide)) HROW.out (below_size HB.out) (by simpa [reqFlds] using (offs_req HOS.out).2) HRES.out
  rw [show (fps 1 g1 os).length = os.length by simp [fps]] at hww
  refine hww.mono ?_
  clear hww
  rintro e wz ⟨hcase, hb, hke⟩
  rcases hcase with ⟨v, r, rfl, rfl, hR⟩ | ⟨rfl, rfl⟩
  · obtain ⟨A, c, rfl⟩ := Kd.R_slice hR
    have b2 := hke _ _ _ B2.out (by decide)
    have b3 := hke _ _ _ B3.out (by decide)
    have hb8 := HB.out.trans hb
    clear HB B1 B2 B3 BL HRES hb hke HROW
    have c2 := blk_cell b2 0
    have f2 := blk_frozen b2 0
    have c3 := blk_cell b3 0
    have f3 := blk_frozen b3 0
    simp only [List.getElem?_toArray, List.getElem?_cons_zero, List.getElem?_cons_succ] at c2 c3
    have B2 := Aside0.mk b2
    have B3 := Aside0.mk b3
    have HB := Aside0.mk hb8
    have HR := Aside0.mk hR
    have N23 := Aside0.mk (blk_ne b2 b3 (by decide))
    have hne1 : ¬ g2 = g3 := N23.out
    have hne2 : ¬ g3 = g2 := fun e => N23.out e.symm
    clear b2 b3 hb8 hR
    go_wp2_with (fail)
    have k2 := blk_far (p := ⟨g3, 0, none⟩) (blk_set B2.out 0 (.slice A r.length c)) N23.out (.int .i64 0)
    have k3 := blk_set (blk_far (p := ⟨g2, 0, none⟩) B3.out (Ne.symm N23.out) (.slice A r.length c)) 0 (.int .i64 0)
    simp only [Array.setIfInBounds, List.size_toArray, List.length_cons, List.length_nil, Nat.zero_add, Nat.lt_add_one, dite_true, List.set_toArray, List.set_cons_zero] at k2 k3
    have hR2 := Kd.R_set (Kd.R_set HR.out B2.out (by decide) 0 (.slice A r.length c)) (blk_far (p := ⟨g2, 0, none⟩) B3.out (Ne.symm N23.out) (.slice A r.length c)) (by decide) 0 (.int .i64 0)
    have hB2 := (HB.out.setCell (p := ⟨g2, 0, none⟩) G2.out (.slice A r.length c)).setCell (p := ⟨g3, 0, none⟩) G3.out (.int .i64 0)
    clear c2 f2 c3 f3 HR B2 B3 HB
    generalize (wz.setCell ⟨g2, 0, none⟩ (.slice A r.length c)).setCell ⟨g3, 0, none⟩ (.int .i64 0) = wy at k2 k3 hR2 hB2 ⊢
    have c2 := blk_cell k2 0
    have c3 := blk_cell k3 0
    simp only [List.getElem?_toArray, List.getElem?_cons_zero, List.getElem?_cons_succ] at c2 c3
    refine doorB_ok 38 clBytes_ok (fun _ _ _ => by simp [go_sem]) Try.f15 _ g2 g3 wy k3 _ (.tuple #[.slice A r.length c, .int .i64 0]) ?_ ⟨.inl ⟨r, _, rfl, rfl, hR2⟩, hB2⟩
    simp [results, Try.results15, asAddr, go_sem, c2, c3]
  · refine doorB_bad 38 clBytes_bad (fun _ _ _ => by simp [go_sem]) Try.f15 rfl _ g2 g3 w.heap.size rfl rfl 0 (.slice none 0 0) w _ (HB.out.trans hb) (below_size (HB.out.trans hb)) G2.out G3.out (hke _ _ _ B2.out (by decide)) (hke _ _ _ B3.out (by decide)) _ ?_
    intro w' hb
    exact ⟨.inr ⟨rfl, rfl⟩, hb⟩

def wire_Bytes.f (k : Nat) (a0_0 : Int) (a0_1 : ByteArray) (a0_2 : Int) (a0_3 : Int) (a0_4 : Int) (a0_5 : Int) (a0_6 : Int) : Option (List Int × Int) :=
  match reqOffs a0_0 with
  | none => some ([], 220)
  | some os => if reqPlain os a0_1 a0_2 a0_3 a0_4 a0_5 a0_6 = true then (code_Num.f k (IntKind.u64.wrap a0_0)).bind fun t => (wireWr k (reqFlds os a0_0 a0_1 a0_2 a0_3 a0_4 a0_5 a0_6) t).bind fun x => some (outB x) else some ([], 220)
theorem wire_Bytes.mono : ∀ a0_0 a0_1 a0_2 a0_3 a0_4 a0_5 a0_6 k, LeO (wire_Bytes.f k a0_0 a0_1 a0_2 a0_3 a0_4 a0_5 a0_6) (wire_Bytes.f (k + 1) a0_0 a0_1 a0_2 a0_3 a0_4 a0_5 a0_6) := by
  intro a0_0 a0_1 a0_2 a0_3 a0_4 a0_5 a0_6 k
  unfold wire_Bytes.f
  cases reqOffs a0_0 with
  | none => exact LeO.refl _
  | some os => exact LeO.ite (LeO.bind (code_Num.mono _ k) (fun _ => LeO.bind (wireWr_mono _ _ k) (fun _ => LeO.refl _))) (LeO.refl _)
theorem wire_Bytes.calls (k : Nat) (a0_0 : Int) (a0_1 : ByteArray) (a0_2 : Int) (a0_3 : Int) (a0_4 : Int) (a0_5 : Int) (a0_6 : Int) (r1 : List Int) (r2 : Int) (w : World) (h : wire_Bytes.f k a0_0 a0_1 a0_2 a0_3 a0_4 a0_5 a0_6 = some (r1, r2)) :
    Calls Try.prog 15 #[.agg #[.int .i64 a0_0, .string a0_1, .int .i64 a0_2, .int .i64 a0_3, .int .i64 a0_4, .int .i64 a0_5, .int .i64 a0_6]] w fun e w' => ∃ v0_ : Value, e = .returned (.tuple #[v0_, .int .i64 r2]) ∧ Kd.R (Kd.int .u8) 5 w' w.heap.size (fun _ => True) v0_ r1 ∧ Below w.heap.size w w' := by
  unfold wire_Bytes.f at h
  obtain ⟨oo, ho⟩ : ∃ oo, reqOffs a0_0 = oo := ⟨_, rfl⟩
  rw [ho] at h
  cases oo with
  | none =>
    simp only [Option.some.injEq, Prod.mk.injEq] at h
    obtain ⟨rfl, rfl⟩ := h
    refine (wBytes_not a0_0 a0_1 a0_2 a0_3 a0_4 a0_5 a0_6 w ho).mono ?_
    rintro e w' ⟨rfl, hb⟩
    exact ⟨_, rfl, Kd.R_nil _ _ _ _ _, hb⟩
  | some os =>
    obtain ⟨pl, hpl⟩ : ∃ pl, reqPlain os a0_1 a0_2 a0_3 a0_4 a0_5 a0_6 = pl := ⟨_, rfl⟩
    dsimp only at h
    rw [hpl] at h
    cases pl with
    | false =>
      rw [if_neg (by decide)] at h
      simp only [Option.some.injEq, Prod.mk.injEq] at h
      obtain ⟨rfl, rfl⟩ := h
      refine (wBytes_odd os a0_0 a0_1 a0_2 a0_3 a0_4 a0_5 a0_6 w ho hpl).mono ?_
      rintro e w' ⟨rfl, hb⟩
      exact ⟨_, rfl, Kd.R_nil _ _ _ _ _, hb⟩
    | true =>
      rw [if_pos rfl] at h
      obtain ⟨t, ht, h⟩ := Option.bind_eq_some_iff.mp h
      obtain ⟨x, hx, h⟩ := Option.bind_eq_some_iff.mp h
      refine (wBytes_some k os t x a0_0 a0_1 a0_2 a0_3 a0_4 a0_5 a0_6 w ho hpl ht hx).mono ?_
      rintro e w' ⟨⟨r, v, rfl, rfl, hR⟩ | ⟨rfl, rfl⟩, hb⟩
      · simp only [outB, Option.some.injEq, Prod.mk.injEq] at h
        obtain ⟨rfl, rfl⟩ := h
        exact ⟨_, rfl, hR, hb⟩
      · simp only [outB, Option.some.injEq, Prod.mk.injEq] at h
        obtain ⟨rfl, rfl⟩ := h
        exact ⟨_, rfl, Kd.R_nil _ _ _ _ _, hb⟩

/-! ### lienlaw22_awake: function 14 -/
def lienlaw22_awake.f (k : Nat)  : Option (Bool) := (wire_Bytes.f k 2 (⟨#[97]⟩ : ByteArray) 0 300 0 0 0).bind fun bt287 => ((wire_ReadMsg.f k (([2, 3, 5] : List Int))).bind fun bt294 => (if bt287.2 = 0 then (if (strOfNums bt287.1).toList = ([2, 1, 97, 172, 2] : List UInt8) then (if bt294.2.2.2.2.2 = 0 then (some (bt294.1 == 2 && (bt294.2.1 == 3 && (bt294.2.2.1 == 5 && (bt294.2.2.2.1.toList == ([] : List UInt8) && (bt294.2.2.2.2.1 == 0)))))) else (some false)) else (some false)) else (some false)))
theorem lienlaw22_awake.mono : ∀ k, LeO (lienlaw22_awake.f k ) (lienlaw22_awake.f (k + 1) ) := by
  intro  k
  unfold lienlaw22_awake.f
  repeat' first
      | (with_reducible exact wire_Bytes.mono _ _ _ _ _ _ _ _)
      | (with_reducible exact wire_ReadMsg.mono _ _)
      | (with_reducible exact LeO.refl _)
      | (with_reducible exact LeO.none _)
      | (with_reducible refine LeO.ite ?_ ?_)
      | (with_reducible refine LeO.bind ?_ (fun _ => ?_))
      | exact wire_Bytes.mono _ _ _ _ _ _ _ _
      | exact wire_ReadMsg.mono _ _
      | exact LeO.none _
      | refine LeO.ite ?_ ?_
      | refine LeO.bind ?_ (fun _ => ?_)
set_option maxHeartbeats 8000000 in
set_option maxRecDepth 100000 in
theorem lienlaw22_awake.calls (k : Nat)  (r : Bool) (w : World) (h : lienlaw22_awake.f k  = some r) :
    Calls Try.prog 14 #[] w fun e w' => e = .returned (.bool r) ∧ Below w.heap.size w w' := by
  have hu37 := Try.underlying37
  have hu24 := Try.underlying24
  have HB := Aside0.mk (Below.refl w.heap.size w)
  have H : ((wire_Bytes.f k 2 (⟨#[97]⟩ : ByteArray) 0 300 0 0 0).bind fun bt287 => ((wire_ReadMsg.f k (([2, 3, 5] : List Int))).bind fun bt294 => (if bt287.2 = 0 then (if (strOfNums bt287.1).toList = ([2, 1, 97, 172, 2] : List UInt8) then (if bt294.2.2.2.2.2 = 0 then (some (bt294.1 == 2 && (bt294.2.1 == 3 && (bt294.2.2.1 == 5 && (bt294.2.2.2.1.toList == ([] : List UInt8) && (bt294.2.2.2.2.1 == 0)))))) else (some false)) else (some false)) else (some false)))) = some r := h
  clear h
  replace H := Option.bind_eq_some_iff.mp H
  obtain ⟨⟨t287, t290⟩, A10, H⟩ := H
  replace H : ((wire_ReadMsg.f k (([2, 3, 5] : List Int))).bind fun bt294 => (if t290 = 0 then (if (strOfNums t287).toList = ([2, 1, 97, 172, 2] : List UInt8) then (if bt294.2.2.2.2.2 = 0 then (some (bt294.1 == 2 && (bt294.2.1 == 3 && (bt294.2.2.1 == 5 && (bt294.2.2.2.1.toList == ([] : List UInt8) && (bt294.2.2.2.2.1 == 0)))))) else (some false)) else (some false)) else (some false))) = some r := H
  have A1 := Aside0.mk A10
  clear A10
  obtain ⟨y291, hy291⟩ : ∃ y_ : List Int, y_ = (([2, 3, 5] : List Int)) := ⟨_, rfl⟩
  replace H : ((wire_ReadMsg.f k y291).bind fun bt294 => (if t290 = 0 then (if (strOfNums t287).toList = ([2, 1, 97, 172, 2] : List UInt8) then (if bt294.2.2.2.2.2 = 0 then (some (bt294.1 == 2 && (bt294.2.1 == 3 && (bt294.2.2.1 == 5 && (bt294.2.2.2.1.toList == ([] : List UInt8) && (bt294.2.2.2.2.1 == 0)))))) else (some false)) else (some false)) else (some false))) = some r := by first | (rw [hy291]; with_reducible exact H) | (have H2_ := (Option.bind_some _ _).symm.trans H; rw [hy291]; with_reducible exact H2_) | (have H2_ := (Option.bind_some _ _).symm.trans H; with_reducible exact H2_) | with_reducible exact H | (rw [hy291]; exact H) | exact H
  have Ny291 := Aside0.mk hy291
  clear hy291
  replace H := Option.bind_eq_some_iff.mp H
  obtain ⟨⟨t294, t295, t296, t297, t298, t299⟩, A20, H⟩ := H
  replace H : (if t290 = 0 then (if (strOfNums t287).toList = ([2, 1, 97, 172, 2] : List UInt8) then (if t299 = 0 then (some (t294 == 2 && (t295 == 3 && (t296 == 5 && (t297.toList == ([] : List UInt8) && (t298 == 0)))))) else (some false)) else (some false)) else (some false)) = some r := H
  have A2 := Aside0.mk A20
  clear A20
  by_cases c3 : t290 = 0
  · rw [if_pos c3] at H
    have c3b0 : (t290 == 0) = true := beq_iff_eq.mpr c3
    have c3b1 : (t290 != 0) = false := bne_eq_false_iff_eq.mpr c3
    clear c3
    by_cases c4 : (strOfNums t287).toList = ([2, 1, 97, 172, 2] : List UInt8)
    · rw [if_pos c4] at H
      have c4b0 : ((strOfNums t287).toList == ([2, 1, 97, 172, 2] : List UInt8)) = true := beq_iff_eq.mpr c4
      have c4b1 : ((strOfNums t287).toList != ([2, 1, 97, 172, 2] : List UInt8)) = false := bne_eq_false_iff_eq.mpr c4
      clear c4
      by_cases c5 : t299 = 0
      · rw [if_pos c5] at H
        have c5b0 : (t299 == 0) = true := beq_iff_eq.mpr c5
        have c5b1 : (t299 != 0) = false := bne_eq_false_iff_eq.mpr c5
        clear c5
        obtain rfl := Option.some.inj H
        go_enter Try.func14, Try.ntmps14
        go_wp2_with (first | ((with_reducible refine gate_callee (f := 15) rfl ?_); refine goesL_ (some 7) rfl rfl Try.func15 (by kernel_rfl) rfl #[.agg #[.int .i64 2, .string (⟨#[97]⟩ : ByteArray), .int .i64 0, .int .i64 300, .int .i64 0, .int .i64 0, .int .i64 0]] rfl (by (try simp only [List.map_toArray, List.map_cons, List.map_nil]); first | done | rfl | (simp only [List.length_drop, List.length_take]; rfl)) ?_; (with_reducible refine (wire_Bytes.calls k 2 (⟨#[97]⟩ : ByteArray) 0 300 0 0 0 t287 t290 _ A1.out).mono ?_); rintro e w6 ⟨v288, rfl, ho0, hb⟩; refine ⟨_, rfl, ?_⟩; have n0_ := Aside0.mk (Kd.R_lower ho0 (below_size (by repeat (first | (with_reducible first | exact HB.out | apply below_alloc | apply pw_below_drewN | apply below_drew1) | exact HB.out)))); have n1_ := Aside0.mk (below_step (by repeat (first | (with_reducible first | exact HB.out | apply below_alloc | apply pw_below_drewN | apply below_drew1) | exact HB.out)) hb); clear HB; have HO289 := n0_; have HB := n1_; clear n0_ n1_; (try clear hb); (try clear hb2); (try clear hk); (try clear hi); (try clear ho0)) | ((with_reducible refine gate_dst (N := 11) rfl ?_); refine Kd.R_lit (Kd.int .u8) _ 5 ?hg (N := 11) ?hd (xs := ([2, 3, 5] : List Int)) (inner := [.int .u8 2, .int .u8 3, .int .u8 5]) (ok := fun _ => True) (okp := fun _ => True) ?hr ?hp (fun _ hk => hk) trivial (Below.refl _ _) (Nat.le_refl _) (by simp) ?_; (case hd => rfl); (case hg => rfl); (case hr => first | (go_simp; done) | (go_simp; rfl)); (case hp => exact (Reps.one (show Kd.M (Kd.int .u8) _ _ _ 2 [.int .u8 2] from rfl) (Reps.one (show Kd.M (Kd.int .u8) _ _ _ 3 [.int .u8 3] from rfl) (Reps.one (show Kd.M (Kd.int .u8) _ _ _ 5 [.int .u8 5] from rfl) (Reps.none _ _))))); intro v292 w7 ho8 hb hg_ hnew_; clear hg_ hnew_; (first | rw [← Ny291.out] at ho8 | (simp only [Int.reduceToNat] at ho8; rw [← Ny291.out] at ho8)); have n0_ := Aside0.mk (Kd.R_elder' (by (with_reducible repeat (first | apply Kd.R_alloc | apply Kd.R_drewN | apply Kd.R_drew)); exact HO289.out) (Kd.R_base ho8) hb); have n1_ := Aside0.mk (Kd.R_lower (Kd.R_new' ho8 (Kd.R_lt (by (with_reducible repeat (first | apply Kd.R_alloc | apply Kd.R_drewN | apply Kd.R_drew)); exact HO289.out))) (below_size (by repeat (first | (with_reducible first | exact HB.out | apply below_alloc | apply pw_below_drewN | apply below_drew1) | exact HB.out)))); have n2_ := Aside0.mk (below_step (by repeat (first | (with_reducible first | exact HB.out | apply below_alloc | apply pw_below_drewN | apply below_drew1) | exact HB.out)) hb); clear HO289; clear HB; have HO289 := n0_; have HO293 := n1_; have HB := n2_; clear n0_ n1_ n2_; clear hb ho8; obtain ⟨Ao9, co9, eo9⟩ := Kd.R_slice HO293.out; subst eo9) | ((with_reducible refine gate_callee (f := 12) rfl ?_); refine goesL_ (some 12) rfl rfl Try.func12 (by kernel_rfl) rfl #[.slice Ao9 y291.length co9] rfl (by (try simp only [List.map_toArray, List.map_cons, List.map_nil]); first | done | rfl | (simp only [List.length_drop, List.length_take]; rfl)) ?_; (with_reducible refine (wire_ReadMsg.calls k _ _ y291 t294 t295 t296 t297 t298 t299 _ ?side1 ?side2 A2.out).mono ?_); (case side1 => repeat (first | exact (Kd.R_reads' HO293.out).2.2 | (with_reducible refine Kd.C_alloc ?_ _) | (with_reducible refine Kd.C_drewN ?_ _) | (with_reducible refine Kd.C_drew ?_))); (case side2 => exact (Kd.R_reads' HO293.out).2.1); rintro e w10 ⟨rfl, hb⟩; refine ⟨_, rfl, ?_⟩; have n0_ := Aside0.mk (Kd.R_below (by (with_reducible repeat (first | apply Kd.R_alloc | apply Kd.R_drewN | apply Kd.R_drew)); exact HO289.out) hb); have n1_ := Aside0.mk (Kd.R_below (by (with_reducible repeat (first | apply Kd.R_alloc | apply Kd.R_drewN | apply Kd.R_drew)); exact HO293.out) hb); have n2_ := Aside0.mk (below_step (by repeat (first | (with_reducible first | exact HB.out | apply below_alloc | apply pw_below_drewN | apply below_drew1) | exact HB.out)) hb); clear HO289; clear HO293; clear HB; have HO289 := n0_; have HO293 := n1_; have HB := n2_; clear n0_ n1_ n2_; (try clear hb); (try clear hb2); (try clear hk); (try clear hi)) | ((with_reducible refine gate_dst (N := 3) rfl ?_); refine box_event ?hg (N := 3) ?hd (cs := #[.int .i64 0, .int .i64 0, .int .i64 0, .string (⟨#[]⟩ : ByteArray), .int .i64 0]) (t := 24) ?hr ?_; (case hd => rfl); (case hg => rfl); (case hr => first | (go_simp; done) | (go_simp; rfl)); intro gb300 hg w11 hbox hb; have n0_ := Aside0.mk (Kd.R_below (by (with_reducible repeat (first | apply Kd.R_alloc | apply Kd.R_drewN | apply Kd.R_drew)); exact HO289.out) hb); have n1_ := Aside0.mk (Kd.R_below (by (with_reducible repeat (first | apply Kd.R_alloc | apply Kd.R_drewN | apply Kd.R_drew)); exact HO293.out) hb); have n2_ := Aside0.mk (below_step (by repeat (first | (with_reducible first | exact HB.out | apply below_alloc | apply pw_below_drewN | apply below_drew1) | exact HB.out)) hb); have n3_ := Aside0.mk (hbox); have n4_ := Aside0.mk ((by rw [hg]; exact (below_size (by repeat (first | (with_reducible first | exact HB.out | apply below_alloc | apply pw_below_drewN | apply below_drew1) | exact HB.out))) : w.heap.size ≤ gb300)); have n5_ := Aside0.mk ((by rw [hg]; exact (below_size (by repeat (first | (with_reducible first | exact HB.out | apply below_alloc | apply pw_below_drewN | apply below_drew1) | exact HB.out))) : w.heap.size ≤ gb300)); clear HO289; clear HO293; clear HB; have HO289 := n0_; have HO293 := n1_; have HB := n2_; have BK300 := n3_; have GW300 := n4_; have GE300 := n5_; clear n0_ n1_ n2_ n3_ n4_ n5_; clear hb hbox hg; have hcz12_0 : w11.cell? ⟨gb300, 0, none⟩ = some (.int .i64 0) := (blk_cell BK300.out 0).trans rfl; have hcz12_1 : w11.cell? ⟨gb300, 1, none⟩ = some (.int .i64 0) := (blk_cell BK300.out 1).trans rfl; have hcz12_2 : w11.cell? ⟨gb300, 2, none⟩ = some (.int .i64 0) := (blk_cell BK300.out 2).trans rfl; have hcz12_3 : w11.cell? ⟨gb300, 3, none⟩ = some (.string (⟨#[]⟩ : ByteArray)) := (blk_cell BK300.out 3).trans rfl; have hcz12_4 : w11.cell? ⟨gb300, 4, none⟩ = some (.int .i64 0) := (blk_cell BK300.out 4).trans rfl; have hfz12_0 := blk_frozen BK300.out 0; have hfz12_1 := blk_frozen BK300.out 1; have hfz12_2 := blk_frozen BK300.out 2; have hfz12_3 := blk_frozen BK300.out 3; have hfz12_4 := blk_frozen BK300.out 4; have hcv13 := own_string (P := Try.prog) Try.underlying25 Try.underlying5 Try.underlying9 (Kd.own_of_R HO289.out); have hcv13y := fun (u0 u1 u2 u3 u4 : Value) => own_string (P := Try.prog) Try.underlying25 Try.underlying5 Try.underlying9 (Kd.own_of_R (Kd.R_set (Kd.R_set (Kd.R_set (Kd.R_set (Kd.R_set HO289.out BK300.out (by decide) 0 u0) (blk_set BK300.out 0 u0) (by decide) 1 u1) (blk_set (blk_set BK300.out 0 u0) 1 u1) (by decide) 2 u2) (blk_set (blk_set (blk_set BK300.out 0 u0) 1 u1) 2 u2) (by decide) 3 u3) (blk_set (blk_set (blk_set (blk_set BK300.out 0 u0) 1 u1) 2 u2) 3 u3) (by decide) 4 u4))))
        go_ret
        exact ⟨by first | rfl | (simp [errW_none, errW_some] <;> rfl) | (simp [*, errW_none, errW_some] <;> rfl), by repeat (first | (with_reducible first | exact HB.out | apply below_alloc | apply pw_below_drewN | apply below_drew1 | refine below_set ?_ GE300.out) | exact HB.out)⟩
      · rw [if_neg c5] at H
        have c5b0 : (t299 == 0) = false := beq_eq_false_iff_ne.mpr c5
        have c5b1 : (t299 != 0) = true := bne_iff_ne.mpr c5
        obtain rfl := Option.some.inj H
        go_enter Try.func14, Try.ntmps14
        go_wp2_with (first | ((with_reducible refine gate_callee (f := 15) rfl ?_); refine goesL_ (some 7) rfl rfl Try.func15 (by kernel_rfl) rfl #[.agg #[.int .i64 2, .string (⟨#[97]⟩ : ByteArray), .int .i64 0, .int .i64 300, .int .i64 0, .int .i64 0, .int .i64 0]] rfl (by (try simp only [List.map_toArray, List.map_cons, List.map_nil]); first | done | rfl | (simp only [List.length_drop, List.length_take]; rfl)) ?_; (with_reducible refine (wire_Bytes.calls k 2 (⟨#[97]⟩ : ByteArray) 0 300 0 0 0 t287 t290 _ A1.out).mono ?_); rintro e w14 ⟨v288, rfl, ho0, hb⟩; refine ⟨_, rfl, ?_⟩; have n0_ := Aside0.mk (Kd.R_lower ho0 (below_size (by repeat (first | (with_reducible first | exact HB.out | apply below_alloc | apply pw_below_drewN | apply below_drew1) | exact HB.out)))); have n1_ := Aside0.mk (below_step (by repeat (first | (with_reducible first | exact HB.out | apply below_alloc | apply pw_below_drewN | apply below_drew1) | exact HB.out)) hb); clear HB; have HO289 := n0_; have HB := n1_; clear n0_ n1_; (try clear hb); (try clear hb2); (try clear hk); (try clear hi); (try clear ho0)) | ((with_reducible refine gate_dst (N := 11) rfl ?_); refine Kd.R_lit (Kd.int .u8) _ 5 ?hg (N := 11) ?hd (xs := ([2, 3, 5] : List Int)) (inner := [.int .u8 2, .int .u8 3, .int .u8 5]) (ok := fun _ => True) (okp := fun _ => True) ?hr ?hp (fun _ hk => hk) trivial (Below.refl _ _) (Nat.le_refl _) (by simp) ?_; (case hd => rfl); (case hg => rfl); (case hr => first | (go_simp; done) | (go_simp; rfl)); (case hp => exact (Reps.one (show Kd.M (Kd.int .u8) _ _ _ 2 [.int .u8 2] from rfl) (Reps.one (show Kd.M (Kd.int .u8) _ _ _ 3 [.int .u8 3] from rfl) (Reps.one (show Kd.M (Kd.int .u8) _ _ _ 5 [.int .u8 5] from rfl) (Reps.none _ _))))); intro v292 w15 ho16 hb hg_ hnew_; clear hg_ hnew_; (first | rw [← Ny291.out] at ho16 | (simp only [Int.reduceToNat] at ho16; rw [← Ny291.out] at ho16)); have n0_ := Aside0.mk (Kd.R_elder' (by (with_reducible repeat (first | apply Kd.R_alloc | apply Kd.R_drewN | apply Kd.R_drew)); exact HO289.out) (Kd.R_base ho16) hb); have n1_ := Aside0.mk (Kd.R_lower (Kd.R_new' ho16 (Kd.R_lt (by (with_reducible repeat (first | apply Kd.R_alloc | apply Kd.R_drewN | apply Kd.R_drew)); exact HO289.out))) (below_size (by repeat (first | (with_reducible first | exact HB.out | apply below_alloc | apply pw_below_drewN | apply below_drew1) | exact HB.out)))); have n2_ := Aside0.mk (below_step (by repeat (first | (with_reducible first | exact HB.out | apply below_alloc | apply pw_below_drewN | apply below_drew1) | exact HB.out)) hb); clear HO289; clear HB; have HO289 := n0_; have HO293 := n1_; have HB := n2_; clear n0_ n1_ n2_; clear hb ho16; obtain ⟨Ao17, co17, eo17⟩ := Kd.R_slice HO293.out; subst eo17) | ((with_reducible refine gate_callee (f := 12) rfl ?_); refine goesL_ (some 12) rfl rfl Try.func12 (by kernel_rfl) rfl #[.slice Ao17 y291.length co17] rfl (by (try simp only [List.map_toArray, List.map_cons, List.map_nil]); first | done | rfl | (simp only [List.length_drop, List.length_take]; rfl)) ?_; (with_reducible refine (wire_ReadMsg.calls k _ _ y291 t294 t295 t296 t297 t298 t299 _ ?side1 ?side2 A2.out).mono ?_); (case side1 => repeat (first | exact (Kd.R_reads' HO293.out).2.2 | (with_reducible refine Kd.C_alloc ?_ _) | (with_reducible refine Kd.C_drewN ?_ _) | (with_reducible refine Kd.C_drew ?_))); (case side2 => exact (Kd.R_reads' HO293.out).2.1); rintro e w18 ⟨rfl, hb⟩; refine ⟨_, rfl, ?_⟩; have n0_ := Aside0.mk (Kd.R_below (by (with_reducible repeat (first | apply Kd.R_alloc | apply Kd.R_drewN | apply Kd.R_drew)); exact HO289.out) hb); have n1_ := Aside0.mk (Kd.R_below (by (with_reducible repeat (first | apply Kd.R_alloc | apply Kd.R_drewN | apply Kd.R_drew)); exact HO293.out) hb); have n2_ := Aside0.mk (below_step (by repeat (first | (with_reducible first | exact HB.out | apply below_alloc | apply pw_below_drewN | apply below_drew1) | exact HB.out)) hb); clear HO289; clear HO293; clear HB; have HO289 := n0_; have HO293 := n1_; have HB := n2_; clear n0_ n1_ n2_; (try clear hb); (try clear hb2); (try clear hk); (try clear hi)) | ((with_reducible refine gate_dst (N := 3) rfl ?_); refine box_event ?hg (N := 3) ?hd (cs := #[.int .i64 0, .int .i64 0, .int .i64 0, .string (⟨#[]⟩ : ByteArray), .int .i64 0]) (t := 24) ?hr ?_; (case hd => rfl); (case hg => rfl); (case hr => first | (go_simp; done) | (go_simp; rfl)); intro gb300 hg w19 hbox hb; have n0_ := Aside0.mk (Kd.R_below (by (with_reducible repeat (first | apply Kd.R_alloc | apply Kd.R_drewN | apply Kd.R_drew)); exact HO289.out) hb); have n1_ := Aside0.mk (Kd.R_below (by (with_reducible repeat (first | apply Kd.R_alloc | apply Kd.R_drewN | apply Kd.R_drew)); exact HO293.out) hb); have n2_ := Aside0.mk (below_step (by repeat (first | (with_reducible first | exact HB.out | apply below_alloc | apply pw_below_drewN | apply below_drew1) | exact HB.out)) hb); have n3_ := Aside0.mk (hbox); have n4_ := Aside0.mk ((by rw [hg]; exact (below_size (by repeat (first | (with_reducible first | exact HB.out | apply below_alloc | apply pw_below_drewN | apply below_drew1) | exact HB.out))) : w.heap.size ≤ gb300)); have n5_ := Aside0.mk ((by rw [hg]; exact (below_size (by repeat (first | (with_reducible first | exact HB.out | apply below_alloc | apply pw_below_drewN | apply below_drew1) | exact HB.out))) : w.heap.size ≤ gb300)); clear HO289; clear HO293; clear HB; have HO289 := n0_; have HO293 := n1_; have HB := n2_; have BK300 := n3_; have GW300 := n4_; have GE300 := n5_; clear n0_ n1_ n2_ n3_ n4_ n5_; clear hb hbox hg; have hcz20_0 : w19.cell? ⟨gb300, 0, none⟩ = some (.int .i64 0) := (blk_cell BK300.out 0).trans rfl; have hcz20_1 : w19.cell? ⟨gb300, 1, none⟩ = some (.int .i64 0) := (blk_cell BK300.out 1).trans rfl; have hcz20_2 : w19.cell? ⟨gb300, 2, none⟩ = some (.int .i64 0) := (blk_cell BK300.out 2).trans rfl; have hcz20_3 : w19.cell? ⟨gb300, 3, none⟩ = some (.string (⟨#[]⟩ : ByteArray)) := (blk_cell BK300.out 3).trans rfl; have hcz20_4 : w19.cell? ⟨gb300, 4, none⟩ = some (.int .i64 0) := (blk_cell BK300.out 4).trans rfl; have hfz20_0 := blk_frozen BK300.out 0; have hfz20_1 := blk_frozen BK300.out 1; have hfz20_2 := blk_frozen BK300.out 2; have hfz20_3 := blk_frozen BK300.out 3; have hfz20_4 := blk_frozen BK300.out 4; have hcv21 := own_string (P := Try.prog) Try.underlying25 Try.underlying5 Try.underlying9 (Kd.own_of_R HO289.out); have hcv21y := fun (u0 u1 u2 u3 u4 : Value) => own_string (P := Try.prog) Try.underlying25 Try.underlying5 Try.underlying9 (Kd.own_of_R (Kd.R_set (Kd.R_set (Kd.R_set (Kd.R_set (Kd.R_set HO289.out BK300.out (by decide) 0 u0) (blk_set BK300.out 0 u0) (by decide) 1 u1) (blk_set (blk_set BK300.out 0 u0) 1 u1) (by decide) 2 u2) (blk_set (blk_set (blk_set BK300.out 0 u0) 1 u1) 2 u2) (by decide) 3 u3) (blk_set (blk_set (blk_set (blk_set BK300.out 0 u0) 1 u1) 2 u2) 3 u3) (by decide) 4 u4))))
        go_ret
        exact ⟨by first | rfl | (simp [errW_none, errW_some] <;> rfl) | (simp [*, errW_none, errW_some] <;> rfl), by repeat (first | (with_reducible first | exact HB.out | apply below_alloc | apply pw_below_drewN | apply below_drew1 | refine below_set ?_ GE300.out) | exact HB.out)⟩
    · rw [if_neg c4] at H
      have c4b0 : ((strOfNums t287).toList == ([2, 1, 97, 172, 2] : List UInt8)) = false := beq_eq_false_iff_ne.mpr c4
      have c4b1 : ((strOfNums t287).toList != ([2, 1, 97, 172, 2] : List UInt8)) = true := bne_iff_ne.mpr c4
      obtain rfl := Option.some.inj H
      go_enter Try.func14, Try.ntmps14
      go_wp2_with (first | ((with_reducible refine gate_callee (f := 15) rfl ?_); refine goesL_ (some 7) rfl rfl Try.func15 (by kernel_rfl) rfl #[.agg #[.int .i64 2, .string (⟨#[97]⟩ : ByteArray), .int .i64 0, .int .i64 300, .int .i64 0, .int .i64 0, .int .i64 0]] rfl (by (try simp only [List.map_toArray, List.map_cons, List.map_nil]); first | done | rfl | (simp only [List.length_drop, List.length_take]; rfl)) ?_; (with_reducible refine (wire_Bytes.calls k 2 (⟨#[97]⟩ : ByteArray) 0 300 0 0 0 t287 t290 _ A1.out).mono ?_); rintro e w22 ⟨v288, rfl, ho0, hb⟩; refine ⟨_, rfl, ?_⟩; have n0_ := Aside0.mk (Kd.R_lower ho0 (below_size (by repeat (first | (with_reducible first | exact HB.out | apply below_alloc | apply pw_below_drewN | apply below_drew1) | exact HB.out)))); have n1_ := Aside0.mk (below_step (by repeat (first | (with_reducible first | exact HB.out | apply below_alloc | apply pw_below_drewN | apply below_drew1) | exact HB.out)) hb); clear HB; have HO289 := n0_; have HB := n1_; clear n0_ n1_; (try clear hb); (try clear hb2); (try clear hk); (try clear hi); (try clear ho0)) | ((with_reducible refine gate_dst (N := 11) rfl ?_); refine Kd.R_lit (Kd.int .u8) _ 5 ?hg (N := 11) ?hd (xs := ([2, 3, 5] : List Int)) (inner := [.int .u8 2, .int .u8 3, .int .u8 5]) (ok := fun _ => True) (okp := fun _ => True) ?hr ?hp (fun _ hk => hk) trivial (Below.refl _ _) (Nat.le_refl _) (by simp) ?_; (case hd => rfl); (case hg => rfl); (case hr => first | (go_simp; done) | (go_simp; rfl)); (case hp => exact (Reps.one (show Kd.M (Kd.int .u8) _ _ _ 2 [.int .u8 2] from rfl) (Reps.one (show Kd.M (Kd.int .u8) _ _ _ 3 [.int .u8 3] from rfl) (Reps.one (show Kd.M (Kd.int .u8) _ _ _ 5 [.int .u8 5] from rfl) (Reps.none _ _))))); intro v292 w23 ho24 hb hg_ hnew_; clear hg_ hnew_; (first | rw [← Ny291.out] at ho24 | (simp only [Int.reduceToNat] at ho24; rw [← Ny291.out] at ho24)); have n0_ := Aside0.mk (Kd.R_elder' (by (with_reducible repeat (first | apply Kd.R_alloc | apply Kd.R_drewN | apply Kd.R_drew)); exact HO289.out) (Kd.R_base ho24) hb); have n1_ := Aside0.mk (Kd.R_lower (Kd.R_new' ho24 (Kd.R_lt (by (with_reducible repeat (first | apply Kd.R_alloc | apply Kd.R_drewN | apply Kd.R_drew)); exact HO289.out))) (below_size (by repeat (first | (with_reducible first | exact HB.out | apply below_alloc | apply pw_below_drewN | apply below_drew1) | exact HB.out)))); have n2_ := Aside0.mk (below_step (by repeat (first | (with_reducible first | exact HB.out | apply below_alloc | apply pw_below_drewN | apply below_drew1) | exact HB.out)) hb); clear HO289; clear HB; have HO289 := n0_; have HO293 := n1_; have HB := n2_; clear n0_ n1_ n2_; clear hb ho24; obtain ⟨Ao25, co25, eo25⟩ := Kd.R_slice HO293.out; subst eo25) | ((with_reducible refine gate_callee (f := 12) rfl ?_); refine goesL_ (some 12) rfl rfl Try.func12 (by kernel_rfl) rfl #[.slice Ao25 y291.length co25] rfl (by (try simp only [List.map_toArray, List.map_cons, List.map_nil]); first | done | rfl | (simp only [List.length_drop, List.length_take]; rfl)) ?_; (with_reducible refine (wire_ReadMsg.calls k _ _ y291 t294 t295 t296 t297 t298 t299 _ ?side1 ?side2 A2.out).mono ?_); (case side1 => repeat (first | exact (Kd.R_reads' HO293.out).2.2 | (with_reducible refine Kd.C_alloc ?_ _) | (with_reducible refine Kd.C_drewN ?_ _) | (with_reducible refine Kd.C_drew ?_))); (case side2 => exact (Kd.R_reads' HO293.out).2.1); rintro e w26 ⟨rfl, hb⟩; refine ⟨_, rfl, ?_⟩; have n0_ := Aside0.mk (Kd.R_below (by (with_reducible repeat (first | apply Kd.R_alloc | apply Kd.R_drewN | apply Kd.R_drew)); exact HO289.out) hb); have n1_ := Aside0.mk (Kd.R_below (by (with_reducible repeat (first | apply Kd.R_alloc | apply Kd.R_drewN | apply Kd.R_drew)); exact HO293.out) hb); have n2_ := Aside0.mk (below_step (by repeat (first | (with_reducible first | exact HB.out | apply below_alloc | apply pw_below_drewN | apply below_drew1) | exact HB.out)) hb); clear HO289; clear HO293; clear HB; have HO289 := n0_; have HO293 := n1_; have HB := n2_; clear n0_ n1_ n2_; (try clear hb); (try clear hb2); (try clear hk); (try clear hi)) | ((with_reducible refine gate_dst (N := 3) rfl ?_); refine box_event ?hg (N := 3) ?hd (cs := #[.int .i64 0, .int .i64 0, .int .i64 0, .string (⟨#[]⟩ : ByteArray), .int .i64 0]) (t := 24) ?hr ?_; (case hd => rfl); (case hg => rfl); (case hr => first | (go_simp; done) | (go_simp; rfl)); intro gb300 hg w27 hbox hb; have n0_ := Aside0.mk (Kd.R_below (by (with_reducible repeat (first | apply Kd.R_alloc | apply Kd.R_drewN | apply Kd.R_drew)); exact HO289.out) hb); have n1_ := Aside0.mk (Kd.R_below (by (with_reducible repeat (first | apply Kd.R_alloc | apply Kd.R_drewN | apply Kd.R_drew)); exact HO293.out) hb); have n2_ := Aside0.mk (below_step (by repeat (first | (with_reducible first | exact HB.out | apply below_alloc | apply pw_below_drewN | apply below_drew1) | exact HB.out)) hb); have n3_ := Aside0.mk (hbox); have n4_ := Aside0.mk ((by rw [hg]; exact (below_size (by repeat (first | (with_reducible first | exact HB.out | apply below_alloc | apply pw_below_drewN | apply below_drew1) | exact HB.out))) : w.heap.size ≤ gb300)); have n5_ := Aside0.mk ((by rw [hg]; exact (below_size (by repeat (first | (with_reducible first | exact HB.out | apply below_alloc | apply pw_below_drewN | apply below_drew1) | exact HB.out))) : w.heap.size ≤ gb300)); clear HO289; clear HO293; clear HB; have HO289 := n0_; have HO293 := n1_; have HB := n2_; have BK300 := n3_; have GW300 := n4_; have GE300 := n5_; clear n0_ n1_ n2_ n3_ n4_ n5_; clear hb hbox hg; have hcz28_0 : w27.cell? ⟨gb300, 0, none⟩ = some (.int .i64 0) := (blk_cell BK300.out 0).trans rfl; have hcz28_1 : w27.cell? ⟨gb300, 1, none⟩ = some (.int .i64 0) := (blk_cell BK300.out 1).trans rfl; have hcz28_2 : w27.cell? ⟨gb300, 2, none⟩ = some (.int .i64 0) := (blk_cell BK300.out 2).trans rfl; have hcz28_3 : w27.cell? ⟨gb300, 3, none⟩ = some (.string (⟨#[]⟩ : ByteArray)) := (blk_cell BK300.out 3).trans rfl; have hcz28_4 : w27.cell? ⟨gb300, 4, none⟩ = some (.int .i64 0) := (blk_cell BK300.out 4).trans rfl; have hfz28_0 := blk_frozen BK300.out 0; have hfz28_1 := blk_frozen BK300.out 1; have hfz28_2 := blk_frozen BK300.out 2; have hfz28_3 := blk_frozen BK300.out 3; have hfz28_4 := blk_frozen BK300.out 4; have hcv29 := own_string (P := Try.prog) Try.underlying25 Try.underlying5 Try.underlying9 (Kd.own_of_R HO289.out); have hcv29y := fun (u0 u1 u2 u3 u4 : Value) => own_string (P := Try.prog) Try.underlying25 Try.underlying5 Try.underlying9 (Kd.own_of_R (Kd.R_set (Kd.R_set (Kd.R_set (Kd.R_set (Kd.R_set HO289.out BK300.out (by decide) 0 u0) (blk_set BK300.out 0 u0) (by decide) 1 u1) (blk_set (blk_set BK300.out 0 u0) 1 u1) (by decide) 2 u2) (blk_set (blk_set (blk_set BK300.out 0 u0) 1 u1) 2 u2) (by decide) 3 u3) (blk_set (blk_set (blk_set (blk_set BK300.out 0 u0) 1 u1) 2 u2) 3 u3) (by decide) 4 u4))))
      go_ret
      exact ⟨by first | rfl | (simp [errW_none, errW_some] <;> rfl) | (simp [*, errW_none, errW_some] <;> rfl), by repeat (first | (with_reducible first | exact HB.out | apply below_alloc | apply pw_below_drewN | apply below_drew1 | refine below_set ?_ GE300.out) | exact HB.out)⟩
  · rw [if_neg c3] at H
    have c3b0 : (t290 == 0) = false := beq_eq_false_iff_ne.mpr c3
    have c3b1 : (t290 != 0) = true := bne_iff_ne.mpr c3
    obtain rfl := Option.some.inj H
    go_enter Try.func14, Try.ntmps14
    go_wp2_with (first | ((with_reducible refine gate_callee (f := 15) rfl ?_); refine goesL_ (some 7) rfl rfl Try.func15 (by kernel_rfl) rfl #[.agg #[.int .i64 2, .string (⟨#[97]⟩ : ByteArray), .int .i64 0, .int .i64 300, .int .i64 0, .int .i64 0, .int .i64 0]] rfl (by (try simp only [List.map_toArray, List.map_cons, List.map_nil]); first | done | rfl | (simp only [List.length_drop, List.length_take]; rfl)) ?_; (with_reducible refine (wire_Bytes.calls k 2 (⟨#[97]⟩ : ByteArray) 0 300 0 0 0 t287 t290 _ A1.out).mono ?_); rintro e w30 ⟨v288, rfl, ho0, hb⟩; refine ⟨_, rfl, ?_⟩; have n0_ := Aside0.mk (Kd.R_lower ho0 (below_size (by repeat (first | (with_reducible first | exact HB.out | apply below_alloc | apply pw_below_drewN | apply below_drew1) | exact HB.out)))); have n1_ := Aside0.mk (below_step (by repeat (first | (with_reducible first | exact HB.out | apply below_alloc | apply pw_below_drewN | apply below_drew1) | exact HB.out)) hb); clear HB; have HO289 := n0_; have HB := n1_; clear n0_ n1_; (try clear hb); (try clear hb2); (try clear hk); (try clear hi); (try clear ho0)) | ((with_reducible refine gate_dst (N := 11) rfl ?_); refine Kd.R_lit (Kd.int .u8) _ 5 ?hg (N := 11) ?hd (xs := ([2, 3, 5] : List Int)) (inner := [.int .u8 2, .int .u8 3, .int .u8 5]) (ok := fun _ => True) (okp := fun _ => True) ?hr ?hp (fun _ hk => hk) trivial (Below.refl _ _) (Nat.le_refl _) (by simp) ?_; (case hd => rfl); (case hg => rfl); (case hr => first | (go_simp; done) | (go_simp; rfl)); (case hp => exact (Reps.one (show Kd.M (Kd.int .u8) _ _ _ 2 [.int .u8 2] from rfl) (Reps.one (show Kd.M (Kd.int .u8) _ _ _ 3 [.int .u8 3] from rfl) (Reps.one (show Kd.M (Kd.int .u8) _ _ _ 5 [.int .u8 5] from rfl) (Reps.none _ _))))); intro v292 w31 ho32 hb hg_ hnew_; clear hg_ hnew_; (first | rw [← Ny291.out] at ho32 | (simp only [Int.reduceToNat] at ho32; rw [← Ny291.out] at ho32)); have n0_ := Aside0.mk (Kd.R_elder' (by (with_reducible repeat (first | apply Kd.R_alloc | apply Kd.R_drewN | apply Kd.R_drew)); exact HO289.out) (Kd.R_base ho32) hb); have n1_ := Aside0.mk (Kd.R_lower (Kd.R_new' ho32 (Kd.R_lt (by (with_reducible repeat (first | apply Kd.R_alloc | apply Kd.R_drewN | apply Kd.R_drew)); exact HO289.out))) (below_size (by repeat (first | (with_reducible first | exact HB.out | apply below_alloc | apply pw_below_drewN | apply below_drew1) | exact HB.out)))); have n2_ := Aside0.mk (below_step (by repeat (first | (with_reducible first | exact HB.out | apply below_alloc | apply pw_below_drewN | apply below_drew1) | exact HB.out)) hb); clear HO289; clear HB; have HO289 := n0_; have HO293 := n1_; have HB := n2_; clear n0_ n1_ n2_; clear hb ho32; obtain ⟨Ao33, co33, eo33⟩ := Kd.R_slice HO293.out; subst eo33) | ((with_reducible refine gate_callee (f := 12) rfl ?_); refine goesL_ (some 12) rfl rfl Try.func12 (by kernel_rfl) rfl #[.slice Ao33 y291.length co33] rfl (by (try simp only [List.map_toArray, List.map_cons, List.map_nil]); first | done | rfl | (simp only [List.length_drop, List.length_take]; rfl)) ?_; (with_reducible refine (wire_ReadMsg.calls k _ _ y291 t294 t295 t296 t297 t298 t299 _ ?side1 ?side2 A2.out).mono ?_); (case side1 => repeat (first | exact (Kd.R_reads' HO293.out).2.2 | (with_reducible refine Kd.C_alloc ?_ _) | (with_reducible refine Kd.C_drewN ?_ _) | (with_reducible refine Kd.C_drew ?_))); (case side2 => exact (Kd.R_reads' HO293.out).2.1); rintro e w34 ⟨rfl, hb⟩; refine ⟨_, rfl, ?_⟩; have n0_ := Aside0.mk (Kd.R_below (by (with_reducible repeat (first | apply Kd.R_alloc | apply Kd.R_drewN | apply Kd.R_drew)); exact HO289.out) hb); have n1_ := Aside0.mk (Kd.R_below (by (with_reducible repeat (first | apply Kd.R_alloc | apply Kd.R_drewN | apply Kd.R_drew)); exact HO293.out) hb); have n2_ := Aside0.mk (below_step (by repeat (first | (with_reducible first | exact HB.out | apply below_alloc | apply pw_below_drewN | apply below_drew1) | exact HB.out)) hb); clear HO289; clear HO293; clear HB; have HO289 := n0_; have HO293 := n1_; have HB := n2_; clear n0_ n1_ n2_; (try clear hb); (try clear hb2); (try clear hk); (try clear hi)) | ((with_reducible refine gate_dst (N := 3) rfl ?_); refine box_event ?hg (N := 3) ?hd (cs := #[.int .i64 0, .int .i64 0, .int .i64 0, .string (⟨#[]⟩ : ByteArray), .int .i64 0]) (t := 24) ?hr ?_; (case hd => rfl); (case hg => rfl); (case hr => first | (go_simp; done) | (go_simp; rfl)); intro gb300 hg w35 hbox hb; have n0_ := Aside0.mk (Kd.R_below (by (with_reducible repeat (first | apply Kd.R_alloc | apply Kd.R_drewN | apply Kd.R_drew)); exact HO289.out) hb); have n1_ := Aside0.mk (Kd.R_below (by (with_reducible repeat (first | apply Kd.R_alloc | apply Kd.R_drewN | apply Kd.R_drew)); exact HO293.out) hb); have n2_ := Aside0.mk (below_step (by repeat (first | (with_reducible first | exact HB.out | apply below_alloc | apply pw_below_drewN | apply below_drew1) | exact HB.out)) hb); have n3_ := Aside0.mk (hbox); have n4_ := Aside0.mk ((by rw [hg]; exact (below_size (by repeat (first | (with_reducible first | exact HB.out | apply below_alloc | apply pw_below_drewN | apply below_drew1) | exact HB.out))) : w.heap.size ≤ gb300)); have n5_ := Aside0.mk ((by rw [hg]; exact (below_size (by repeat (first | (with_reducible first | exact HB.out | apply below_alloc | apply pw_below_drewN | apply below_drew1) | exact HB.out))) : w.heap.size ≤ gb300)); clear HO289; clear HO293; clear HB; have HO289 := n0_; have HO293 := n1_; have HB := n2_; have BK300 := n3_; have GW300 := n4_; have GE300 := n5_; clear n0_ n1_ n2_ n3_ n4_ n5_; clear hb hbox hg; have hcz36_0 : w35.cell? ⟨gb300, 0, none⟩ = some (.int .i64 0) := (blk_cell BK300.out 0).trans rfl; have hcz36_1 : w35.cell? ⟨gb300, 1, none⟩ = some (.int .i64 0) := (blk_cell BK300.out 1).trans rfl; have hcz36_2 : w35.cell? ⟨gb300, 2, none⟩ = some (.int .i64 0) := (blk_cell BK300.out 2).trans rfl; have hcz36_3 : w35.cell? ⟨gb300, 3, none⟩ = some (.string (⟨#[]⟩ : ByteArray)) := (blk_cell BK300.out 3).trans rfl; have hcz36_4 : w35.cell? ⟨gb300, 4, none⟩ = some (.int .i64 0) := (blk_cell BK300.out 4).trans rfl; have hfz36_0 := blk_frozen BK300.out 0; have hfz36_1 := blk_frozen BK300.out 1; have hfz36_2 := blk_frozen BK300.out 2; have hfz36_3 := blk_frozen BK300.out 3; have hfz36_4 := blk_frozen BK300.out 4))
    go_ret
    exact ⟨by first | rfl | (simp [errW_none, errW_some] <;> rfl) | (simp [*, errW_none, errW_some] <;> rfl), by repeat (first | (with_reducible first | exact HB.out | apply below_alloc | apply pw_below_drewN | apply below_drew1 | refine below_set ?_ GE300.out) | exact HB.out)⟩

/-! ### lienlaw22_WireMsgs: function 3 -/
def lienlaw22_WireMsgs.f (k : Nat) (a0_0 : Int) (a0_1 : Int) (a0_2 : Int) (a0_3 : ByteArray) (a0_4 : Int) (l1 : List Int) : Option (Bool) := (lienlaw22_short.f a0_3).bind fun t302 => ((lienlaw22_cut.f l1).bind fun t303 => ((wire_MsgBytes.f k a0_0 a0_1 a0_2 t302 a0_4).bind fun bt306 => ((lienref22_MsgBytes.f k a0_0 a0_1 a0_2 t302 a0_4).bind fun bt310 => ((wire_ReadMsg.f k t303).bind fun bt314 => ((lienref22_ReadMsg.f k t303).bind fun bt321 => (if (strOfNums bt306.1).toList = (strOfNums bt310.1).toList then (if bt306.2 = bt310.2 then (if (bt314.1 == bt321.1 && (bt314.2.1 == bt321.2.1 && (bt314.2.2.1 == bt321.2.2.1 && (bt314.2.2.2.1.toList == bt321.2.2.2.1.toList && (bt314.2.2.2.2.1 == bt321.2.2.2.2.1))))) = true then (if bt314.2.2.2.2.2 = bt321.2.2.2.2.2 then ((lienlaw22_awake.f k).bind fun t328 => (some t328)) else (some false)) else (some false)) else (some false)) else (some false)))))))
theorem lienlaw22_WireMsgs.mono : ∀ a0 a1 a2 a3 a4 a5 k, LeO (lienlaw22_WireMsgs.f k a0 a1 a2 a3 a4 a5) (lienlaw22_WireMsgs.f (k + 1) a0 a1 a2 a3 a4 a5) := by
  intro a0 a1 a2 a3 a4 a5 k
  unfold lienlaw22_WireMsgs.f
  repeat' first
      | (with_reducible exact lienlaw22_awake.mono _)
      | (with_reducible exact lienref22_MsgBytes.mono _ _ _ _ _ _)
      | (with_reducible exact lienref22_ReadMsg.mono _ _)
      | (with_reducible exact wire_MsgBytes.mono _ _ _ _ _ _)
      | (with_reducible exact wire_ReadMsg.mono _ _)
      | (with_reducible exact LeO.refl _)
      | (with_reducible exact LeO.none _)
      | (with_reducible refine LeO.ite ?_ ?_)
      | (with_reducible refine LeO.bind ?_ (fun _ => ?_))
      | exact lienlaw22_awake.mono _
      | exact lienref22_MsgBytes.mono _ _ _ _ _ _
      | exact lienref22_ReadMsg.mono _ _
      | exact wire_MsgBytes.mono _ _ _ _ _ _
      | exact wire_ReadMsg.mono _ _
      | exact LeO.none _
      | refine LeO.ite ?_ ?_
      | refine LeO.bind ?_ (fun _ => ?_)
set_option maxHeartbeats 8000000 in
set_option maxRecDepth 100000 in
theorem lienlaw22_WireMsgs.calls (k : Nat) (a0_0 : Int) (a0_1 : Int) (a0_2 : Int) (a0_3 : ByteArray) (a0_4 : Int) (A1 : Option Addr) (c1 : Nat) (l1 : List Int) (r : Bool) (w : World) (hr1 : Kd.C (Kd.int .u8) w A1 l1.length l1) (hc1 : l1.length ≤ c1) (h : lienlaw22_WireMsgs.f k a0_0 a0_1 a0_2 a0_3 a0_4 l1 = some r) (hr_ : Aside0 (r = true)) :
    Calls Try.prog 3 #[.agg #[.int .i64 a0_0, .int .i64 a0_1, .int .i64 a0_2, .string a0_3, .int .i64 a0_4], .slice A1 l1.length c1] w fun e w' => e = .returned (.bool r) ∧ Below w.heap.size w w' := by
  have hu24 := Try.underlying24
  have HR1 := Aside0.mk hr1
  have HC1 := Aside0.mk hc1
  clear hr1 hc1
  have HB := Aside0.mk (Below.refl w.heap.size w)
  have H : ((lienlaw22_short.f a0_3).bind fun t302 => ((lienlaw22_cut.f l1).bind fun t303 => ((wire_MsgBytes.f k a0_0 a0_1 a0_2 t302 a0_4).bind fun bt306 => ((lienref22_MsgBytes.f k a0_0 a0_1 a0_2 t302 a0_4).bind fun bt310 => ((wire_ReadMsg.f k t303).bind fun bt314 => ((lienref22_ReadMsg.f k t303).bind fun bt321 => (if (strOfNums bt306.1).toList = (strOfNums bt310.1).toList then (if bt306.2 = bt310.2 then (if (bt314.1 == bt321.1 && (bt314.2.1 == bt321.2.1 && (bt314.2.2.1 == bt321.2.2.1 && (bt314.2.2.2.1.toList == bt321.2.2.2.1.toList && (bt314.2.2.2.2.1 == bt321.2.2.2.2.1))))) = true then (if bt314.2.2.2.2.2 = bt321.2.2.2.2.2 then ((lienlaw22_awake.f k).bind fun t328 => (some t328)) else (some false)) else (some false)) else (some false)) else (some false)))))))) = some r := h
  clear h
  replace H := Option.bind_eq_some_iff.mp H
  obtain ⟨t302, A30, H⟩ := H
  replace H : ((lienlaw22_cut.f l1).bind fun t303 => ((wire_MsgBytes.f k a0_0 a0_1 a0_2 t302 a0_4).bind fun bt306 => ((lienref22_MsgBytes.f k a0_0 a0_1 a0_2 t302 a0_4).bind fun bt310 => ((wire_ReadMsg.f k t303).bind fun bt314 => ((lienref22_ReadMsg.f k t303).bind fun bt321 => (if (strOfNums bt306.1).toList = (strOfNums bt310.1).toList then (if bt306.2 = bt310.2 then (if (bt314.1 == bt321.1 && (bt314.2.1 == bt321.2.1 && (bt314.2.2.1 == bt321.2.2.1 && (bt314.2.2.2.1.toList == bt321.2.2.2.1.toList && (bt314.2.2.2.2.1 == bt321.2.2.2.2.1))))) = true then (if bt314.2.2.2.2.2 = bt321.2.2.2.2.2 then ((lienlaw22_awake.f k).bind fun t328 => (some t328)) else (some false)) else (some false)) else (some false)) else (some false))))))) = some r := H
  have A3 := Aside0.mk A30
  clear A30
  replace H := Option.bind_eq_some_iff.mp H
  obtain ⟨t303, A40, H⟩ := H
  replace H : ((wire_MsgBytes.f k a0_0 a0_1 a0_2 t302 a0_4).bind fun bt306 => ((lienref22_MsgBytes.f k a0_0 a0_1 a0_2 t302 a0_4).bind fun bt310 => ((wire_ReadMsg.f k t303).bind fun bt314 => ((lienref22_ReadMsg.f k t303).bind fun bt321 => (if (strOfNums bt306.1).toList = (strOfNums bt310.1).toList then (if bt306.2 = bt310.2 then (if (bt314.1 == bt321.1 && (bt314.2.1 == bt321.2.1 && (bt314.2.2.1 == bt321.2.2.1 && (bt314.2.2.2.1.toList == bt321.2.2.2.1.toList && (bt314.2.2.2.2.1 == bt321.2.2.2.2.1))))) = true then (if bt314.2.2.2.2.2 = bt321.2.2.2.2.2 then ((lienlaw22_awake.f k).bind fun t328 => (some t328)) else (some false)) else (some false)) else (some false)) else (some false)))))) = some r := H
  have A4 := Aside0.mk A40
  clear A40
  replace H := Option.bind_eq_some_iff.mp H
  obtain ⟨⟨t306, t309⟩, A50, H⟩ := H
  replace H : ((lienref22_MsgBytes.f k a0_0 a0_1 a0_2 t302 a0_4).bind fun bt310 => ((wire_ReadMsg.f k t303).bind fun bt314 => ((lienref22_ReadMsg.f k t303).bind fun bt321 => (if (strOfNums t306).toList = (strOfNums bt310.1).toList then (if t309 = bt310.2 then (if (bt314.1 == bt321.1 && (bt314.2.1 == bt321.2.1 && (bt314.2.2.1 == bt321.2.2.1 && (bt314.2.2.2.1.toList == bt321.2.2.2.1.toList && (bt314.2.2.2.2.1 == bt321.2.2.2.2.1))))) = true then (if bt314.2.2.2.2.2 = bt321.2.2.2.2.2 then ((lienlaw22_awake.f k).bind fun t328 => (some t328)) else (some false)) else (some false)) else (some false)) else (some false))))) = some r := H
  have A5 := Aside0.mk A50
  clear A50
  replace H := Option.bind_eq_some_iff.mp H
  obtain ⟨⟨t310, t313⟩, A60, H⟩ := H
  replace H : ((wire_ReadMsg.f k t303).bind fun bt314 => ((lienref22_ReadMsg.f k t303).bind fun bt321 => (if (strOfNums t306).toList = (strOfNums t310).toList then (if t309 = t313 then (if (bt314.1 == bt321.1 && (bt314.2.1 == bt321.2.1 && (bt314.2.2.1 == bt321.2.2.1 && (bt314.2.2.2.1.toList == bt321.2.2.2.1.toList && (bt314.2.2.2.2.1 == bt321.2.2.2.2.1))))) = true then (if bt314.2.2.2.2.2 = bt321.2.2.2.2.2 then ((lienlaw22_awake.f k).bind fun t328 => (some t328)) else (some false)) else (some false)) else (some false)) else (some false)))) = some r := H
  have A6 := Aside0.mk A60
  clear A60
  replace H := Option.bind_eq_some_iff.mp H
  obtain ⟨⟨t314, t315, t316, t317, t318, t319⟩, A70, H⟩ := H
  replace H : ((lienref22_ReadMsg.f k t303).bind fun bt321 => (if (strOfNums t306).toList = (strOfNums t310).toList then (if t309 = t313 then (if (t314 == bt321.1 && (t315 == bt321.2.1 && (t316 == bt321.2.2.1 && (t317.toList == bt321.2.2.2.1.toList && (t318 == bt321.2.2.2.2.1))))) = true then (if t319 = bt321.2.2.2.2.2 then ((lienlaw22_awake.f k).bind fun t328 => (some t328)) else (some false)) else (some false)) else (some false)) else (some false))) = some r := H
  have A7 := Aside0.mk A70
  clear A70
  replace H := Option.bind_eq_some_iff.mp H
  obtain ⟨⟨t321, t322, t323, t324, t325, t326⟩, A80, H⟩ := H
  replace H : (if (strOfNums t306).toList = (strOfNums t310).toList then (if t309 = t313 then (if (t314 == t321 && (t315 == t322 && (t316 == t323 && (t317.toList == t324.toList && (t318 == t325))))) = true then (if t319 = t326 then ((lienlaw22_awake.f k).bind fun t328 => (some t328)) else (some false)) else (some false)) else (some false)) else (some false)) = some r := H
  have A8 := Aside0.mk A80
  clear A80
  by_cases c9 : (strOfNums t306).toList = (strOfNums t310).toList
  · rw [if_pos c9] at H
    have c9b0 : ((strOfNums t306).toList == (strOfNums t310).toList) = true := beq_iff_eq.mpr c9
    have c9b1 : ((strOfNums t306).toList != (strOfNums t310).toList) = false := bne_eq_false_iff_eq.mpr c9
    clear c9
    by_cases c10 : t309 = t313
    · rw [if_pos c10] at H
      have c10b0 : (t309 == t313) = true := beq_iff_eq.mpr c10
      have c10b1 : (t309 != t313) = false := bne_eq_false_iff_eq.mpr c10
      clear c10
      by_cases c11 : (t314 == t321 && (t315 == t322 && (t316 == t323 && (t317.toList == t324.toList && (t318 == t325))))) = true
      · rw [if_pos c11] at H
        have c11b0 : (t314 == t321 && (t315 == t322 && (t316 == t323 && (t317.toList == t324.toList && (t318 == t325))))) = true := c11
        (try (have c11b1 : decide (t314 = t321 && (t315 == t322 && (t316 == t323 && (t317.toList == t324.toList && (t318 == t325))))) = true := by simpa using c11))
        (try (have c11b2 : (t314 == t321 && (t315 == t322 && (t316 == t323 && (t317.toList == t324.toList && (t318 == t325))))) = true := by simpa using c11))
        clear c11
        by_cases c12 : t319 = t326
        · rw [if_pos c12] at H
          have c12b0 : (t319 == t326) = true := beq_iff_eq.mpr c12
          have c12b1 : (t319 != t326) = false := bne_eq_false_iff_eq.mpr c12
          clear c12
          replace H := Option.bind_eq_some_iff.mp H
          obtain ⟨t328, A130, H⟩ := H
          replace H : (some t328) = some r := H
          have A13 := Aside0.mk A130
          clear A130
          obtain rfl := Option.some.inj H
          go_enter Try.func3, Try.ntmps3
          go_wp2_with (first | ((with_reducible refine gate_dst (N := 2) rfl ?_); refine box_event ?hg (N := 2) ?hd (cs := #[.int .i64 a0_0, .int .i64 a0_1, .int .i64 a0_2, .string a0_3, .int .i64 a0_4]) (t := 24) ?hr ?_; (case hd => rfl); (case hg => rfl); (case hr => first | (go_simp; done) | (go_simp; rfl)); intro gb301 hg w14 hbox hb; have n0_ := Aside0.mk (below_step (by repeat (first | (with_reducible first | exact HB.out | apply below_alloc | apply pw_below_drewN | apply below_drew1) | exact HB.out)) hb); have n1_ := Aside0.mk (hbox); have n2_ := Aside0.mk ((by rw [hg]; exact (below_size (by repeat (first | (with_reducible first | exact HB.out | apply below_alloc | apply pw_below_drewN | apply below_drew1) | exact HB.out))) : w.heap.size ≤ gb301)); have n3_ := Aside0.mk ((by rw [hg]; exact (below_size (by repeat (first | (with_reducible first | exact HB.out | apply below_alloc | apply pw_below_drewN | apply below_drew1) | exact HB.out))) : w.heap.size ≤ gb301)); clear HB; have HB := n0_; have BK301 := n1_; have GW301 := n2_; have GE301 := n3_; clear n0_ n1_ n2_ n3_; clear hb hbox hg; have hcz15_0 : w14.cell? ⟨gb301, 0, none⟩ = some (.int .i64 a0_0) := (blk_cell BK301.out 0).trans rfl; have hcz15_1 : w14.cell? ⟨gb301, 1, none⟩ = some (.int .i64 a0_1) := (blk_cell BK301.out 1).trans rfl; have hcz15_2 : w14.cell? ⟨gb301, 2, none⟩ = some (.int .i64 a0_2) := (blk_cell BK301.out 2).trans rfl; have hcz15_3 : w14.cell? ⟨gb301, 3, none⟩ = some (.string a0_3) := (blk_cell BK301.out 3).trans rfl; have hcz15_4 : w14.cell? ⟨gb301, 4, none⟩ = some (.int .i64 a0_4) := (blk_cell BK301.out 4).trans rfl; have hfz15_0 := blk_frozen BK301.out 0; have hfz15_1 := blk_frozen BK301.out 1; have hfz15_2 := blk_frozen BK301.out 2; have hfz15_3 := blk_frozen BK301.out 3; have hfz15_4 := blk_frozen BK301.out 4) | ((with_reducible refine gate_callee (f := 8) rfl ?_); refine goesL_ (some 15) rfl rfl Try.func8 (by kernel_rfl) rfl #[.string a0_3] rfl (by (try simp only [List.map_toArray, List.map_cons, List.map_nil]); first | done | rfl | (simp only [List.length_drop, List.length_take]; rfl)) ?_; (with_reducible refine (lienlaw22_short.calls a0_3 t302 _ A3.out).mono ?_); rintro e w' ⟨rfl, ⟨nd, rfl⟩⟩; refine ⟨_, rfl, ?_⟩; (try (rw [drewN_self w14]; generalize hq_ : World.drewN w14 _ = w14; have n0_ : Aside0 (w14.heap[gb301]? = some (.cells #[.int .i64 a0_0, .int .i64 a0_1, .int .i64 a0_2, .string a0_3, .int .i64 a0_4] 24 (0, 0))) := ⟨by rw [← hq_]; exact (by (with_reducible repeat (first | refine blk_drewN ?_ _ | refine blk_drew ?_ | refine blk_alloc ?_ _)); exact BK301.out)⟩; have n1_ : Aside0 (Below w.heap.size w w14) := ⟨by rw [← hq_]; exact (by repeat (first | (with_reducible first | exact HB.out | apply below_alloc | apply pw_below_drewN | apply below_drew1 | refine below_set ?_ GE301.out) | exact HB.out))⟩; clear BK301 HB hq_; have BK301 := n0_; have HB := n1_; clear n0_ n1_))) | ((with_reducible refine gate_callee (f := 9) rfl ?_); refine goesL_ (some 17) rfl rfl Try.func9 (by kernel_rfl) rfl #[.slice A1 l1.length c1] rfl (by (try simp only [List.map_toArray, List.map_cons, List.map_nil]); first | done | rfl | (simp only [List.length_drop, List.length_take]; rfl)) ?_; (with_reducible refine (lienlaw22_cut.calls (fun k_ => k_ < w.heap.size) _ _ l1 t303 _ ?side1 A4.out).mono ?_); (case side1 => exact Kd.V_mk HC1.out (Kd.F_below (Kd.C_F (Kd.heap_int .u8) HR1.out) (by repeat (first | (with_reducible first | exact HB.out | apply below_alloc | apply pw_below_drewN | apply below_drew1 | refine below_set ?_ GE301.out) | exact HB.out)))); rintro e w16 ⟨v304, rfl, ho0, hb⟩; refine ⟨_, rfl, ?_⟩; have n0_ := Aside0.mk (Kd.V_lower (Kd.V_mono (ok' := fun k_ => k_ ≠ gb301) ho0 (fun k_ hk_ => Or.elim hk_ (fun hs_ => fun e_ => Nat.not_le.2 hs_ (by rw [e_]; exact GW301.out)) (fun hn_ => (Kd.freshB (g := gb301) (o := .cells #[.int .i64 a0_0, .int .i64 a0_1, .int .i64 a0_2, .string a0_3, .int .i64 a0_4] 24 (0, 0)) (by (with_reducible repeat (first | refine blk_drewN ?_ _ | refine blk_drew ?_ | refine blk_alloc ?_ _)); exact BK301.out) k_ hn_)))) (below_size (by repeat (first | (with_reducible first | exact HB.out | apply below_alloc | apply pw_below_drewN | apply below_drew1 | refine below_set ?_ GE301.out) | exact HB.out)))); have n1_ := Aside0.mk (blk_below (g := gb301) (o := .cells #[.int .i64 a0_0, .int .i64 a0_1, .int .i64 a0_2, .string a0_3, .int .i64 a0_4] 24 (0, 0)) (by (with_reducible repeat (first | refine blk_drewN ?_ _ | refine blk_drew ?_ | refine blk_alloc ?_ _)); exact BK301.out) hb); have n2_ := Aside0.mk (below_step (by repeat (first | (with_reducible first | exact HB.out | apply below_alloc | apply pw_below_drewN | apply below_drew1 | refine below_set ?_ GE301.out) | exact HB.out)) hb); clear BK301; clear HB; have HO305 := n0_; have BK301 := n1_; have HB := n2_; clear n0_ n1_ n2_; (try clear hb); (try clear hb2); (try clear hk); (try clear hi); (try clear ho0); have hcz17_0 : w16.cell? ⟨gb301, 0, none⟩ = some (.int .i64 a0_0) := (blk_cell BK301.out 0).trans rfl; have hcz17_1 : w16.cell? ⟨gb301, 1, none⟩ = some (.int .i64 a0_1) := (blk_cell BK301.out 1).trans rfl; have hcz17_2 : w16.cell? ⟨gb301, 2, none⟩ = some (.int .i64 a0_2) := (blk_cell BK301.out 2).trans rfl; have hcz17_3 : w16.cell? ⟨gb301, 3, none⟩ = some (.string a0_3) := (blk_cell BK301.out 3).trans rfl; have hcz17_4 : w16.cell? ⟨gb301, 4, none⟩ = some (.int .i64 a0_4) := (blk_cell BK301.out 4).trans rfl; have hfz17_0 := blk_frozen BK301.out 0; have hfz17_1 := blk_frozen BK301.out 1; have hfz17_2 := blk_frozen BK301.out 2; have hfz17_3 := blk_frozen BK301.out 3; have hfz17_4 := blk_frozen BK301.out 4) | ((with_reducible refine gate_callee (f := 10) rfl ?_); refine goesL_ (some 21) rfl rfl Try.func10 (by kernel_rfl) rfl #[.agg #[.int .i64 a0_0, .int .i64 a0_1, .int .i64 a0_2, .string t302, .int .i64 a0_4]] rfl (by (try simp only [List.map_toArray, List.map_cons, List.map_nil]); first | done | rfl | (simp only [List.length_drop, List.length_take]; rfl)) ?_; (with_reducible refine (wire_MsgBytes.calls k a0_0 a0_1 a0_2 t302 a0_4 t306 t309 _ A5.out).mono ?_); rintro e w18 ⟨v307, rfl, ho0, hb⟩; refine ⟨_, rfl, ?_⟩; have n0_ := Aside0.mk (Kd.V_elder' (by (with_reducible repeat (first | apply Kd.V_alloc | apply Kd.V_drewN | apply Kd.V_drew)); exact (Kd.V_mono (Kd.V_far (p := ⟨gb301, 3, none⟩) (Kd.V_mono HO305.out (fun k_ hk => (⟨hk, hk⟩ : _ ∧ k_ ≠ gb301))) (fun _ hk => hk.2) (.string t302)) (fun _ h_ => h_.1))) (Kd.R_base ho0) hb); have n1_ := Aside0.mk (Kd.R_lower ho0 (below_size (by repeat (first | (with_reducible first | exact HB.out | apply below_alloc | apply pw_below_drewN | apply below_drew1 | refine below_set ?_ GE301.out) | exact HB.out)))); have n2_ := Aside0.mk (blk_below (g := gb301) (o := .cells #[.int .i64 a0_0, .int .i64 a0_1, .int .i64 a0_2, .string t302, .int .i64 a0_4] 24 (0, 0)) (by (with_reducible repeat (first | refine blk_drewN ?_ _ | refine blk_drew ?_ | refine blk_alloc ?_ _)); refine blk_put (cs := #[.int .i64 a0_0, .int .i64 a0_1, .int .i64 a0_2, .string a0_3, .int .i64 a0_4]) ?_ 3 _ rfl; (with_reducible repeat (first | refine blk_drewN ?_ _ | refine blk_drew ?_ | refine blk_alloc ?_ _)); exact BK301.out) hb); have n3_ := Aside0.mk (below_step (by repeat (first | (with_reducible first | exact HB.out | apply below_alloc | apply pw_below_drewN | apply below_drew1 | refine below_set ?_ GE301.out) | exact HB.out)) hb); clear HO305; clear BK301; clear HB; have HO305 := n0_; have HO308 := n1_; have BK301 := n2_; have HB := n3_; clear n0_ n1_ n2_ n3_; (try clear hb); (try clear hb2); (try clear hk); (try clear hi); (try clear ho0); have hcz19_0 : w18.cell? ⟨gb301, 0, none⟩ = some (.int .i64 a0_0) := (blk_cell BK301.out 0).trans rfl; have hcz19_1 : w18.cell? ⟨gb301, 1, none⟩ = some (.int .i64 a0_1) := (blk_cell BK301.out 1).trans rfl; have hcz19_2 : w18.cell? ⟨gb301, 2, none⟩ = some (.int .i64 a0_2) := (blk_cell BK301.out 2).trans rfl; have hcz19_3 : w18.cell? ⟨gb301, 3, none⟩ = some (.string t302) := (blk_cell BK301.out 3).trans rfl; have hcz19_4 : w18.cell? ⟨gb301, 4, none⟩ = some (.int .i64 a0_4) := (blk_cell BK301.out 4).trans rfl; have hfz19_0 := blk_frozen BK301.out 0; have hfz19_1 := blk_frozen BK301.out 1; have hfz19_2 := blk_frozen BK301.out 2; have hfz19_3 := blk_frozen BK301.out 3; have hfz19_4 := blk_frozen BK301.out 4) | ((with_reducible refine gate_callee (f := 11) rfl ?_); refine goesL_ (some 26) rfl rfl Try.func11 (by kernel_rfl) rfl #[.agg #[.int .i64 a0_0, .int .i64 a0_1, .int .i64 a0_2, .string t302, .int .i64 a0_4]] rfl (by (try simp only [List.map_toArray, List.map_cons, List.map_nil]); first | done | rfl | (simp only [List.length_drop, List.length_take]; rfl)) ?_; (with_reducible refine (lienref22_MsgBytes.calls k a0_0 a0_1 a0_2 t302 a0_4 t310 t313 _ A6.out).mono ?_); rintro e w20 ⟨v311, rfl, ho0, hb⟩; refine ⟨_, rfl, ?_⟩; have n0_ := Aside0.mk (Kd.V_elder' (by (with_reducible repeat (first | apply Kd.V_alloc | apply Kd.V_drewN | apply Kd.V_drew)); exact HO305.out) (Kd.R_base ho0) hb); have n1_ := Aside0.mk (Kd.R_elder' (by (with_reducible repeat (first | apply Kd.R_alloc | apply Kd.R_drewN | apply Kd.R_drew)); exact HO308.out) (Kd.R_base ho0) hb); have n2_ := Aside0.mk (Kd.R_lower (Kd.R_new' ho0 (Kd.R_lt (by (with_reducible repeat (first | apply Kd.R_alloc | apply Kd.R_drewN | apply Kd.R_drew)); exact HO308.out))) (below_size (by repeat (first | (with_reducible first | exact HB.out | apply below_alloc | apply pw_below_drewN | apply below_drew1 | refine below_set ?_ GE301.out) | exact HB.out)))); have n3_ := Aside0.mk (blk_below (g := gb301) (o := .cells #[.int .i64 a0_0, .int .i64 a0_1, .int .i64 a0_2, .string t302, .int .i64 a0_4] 24 (0, 0)) (by (with_reducible repeat (first | refine blk_drewN ?_ _ | refine blk_drew ?_ | refine blk_alloc ?_ _)); exact BK301.out) hb); have n4_ := Aside0.mk (below_step (by repeat (first | (with_reducible first | exact HB.out | apply below_alloc | apply pw_below_drewN | apply below_drew1 | refine below_set ?_ GE301.out) | exact HB.out)) hb); clear HO305; clear HO308; clear BK301; clear HB; have HO305 := n0_; have HO308 := n1_; have HO312 := n2_; have BK301 := n3_; have HB := n4_; clear n0_ n1_ n2_ n3_ n4_; (try clear hb); (try clear hb2); (try clear hk); (try clear hi); (try clear ho0); obtain ⟨Ao21, co21, eo21⟩ := Kd.V_slice HO305.out; subst eo21) | ((with_reducible refine gate_callee (f := 12) rfl ?_); refine goesL_ (some 31) rfl rfl Try.func12 (by kernel_rfl) rfl #[.slice Ao21 t303.length co21] rfl (by (try simp only [List.map_toArray, List.map_cons, List.map_nil]); first | done | rfl | (simp only [List.length_drop, List.length_take]; rfl)) ?_; (with_reducible refine (wire_ReadMsg.calls k _ _ t303 t314 t315 t316 t317 t318 t319 _ ?side1 ?side2 A7.out).mono ?_); (case side1 => repeat (first | exact (Kd.V_reads' HO305.out).2.2 | (with_reducible refine Kd.C_alloc ?_ _) | (with_reducible refine Kd.C_drewN ?_ _) | (with_reducible refine Kd.C_drew ?_))); (case side2 => exact (Kd.V_reads' HO305.out).2.1); rintro e w22 ⟨rfl, hb⟩; refine ⟨_, rfl, ?_⟩; have n0_ := Aside0.mk (Kd.V_below (by (with_reducible repeat (first | apply Kd.V_alloc | apply Kd.V_drewN | apply Kd.V_drew)); exact HO305.out) hb); have n1_ := Aside0.mk (Kd.R_below (by (with_reducible repeat (first | apply Kd.R_alloc | apply Kd.R_drewN | apply Kd.R_drew)); exact HO308.out) hb); have n2_ := Aside0.mk (Kd.R_below (by (with_reducible repeat (first | apply Kd.R_alloc | apply Kd.R_drewN | apply Kd.R_drew)); exact HO312.out) hb); have n3_ := Aside0.mk (blk_below (g := gb301) (o := .cells #[.int .i64 a0_0, .int .i64 a0_1, .int .i64 a0_2, .string t302, .int .i64 a0_4] 24 (0, 0)) (by (with_reducible repeat (first | refine blk_drewN ?_ _ | refine blk_drew ?_ | refine blk_alloc ?_ _)); exact BK301.out) hb); have n4_ := Aside0.mk (below_step (by repeat (first | (with_reducible first | exact HB.out | apply below_alloc | apply pw_below_drewN | apply below_drew1 | refine below_set ?_ GE301.out) | exact HB.out)) hb); clear HO305; clear HO308; clear HO312; clear BK301; clear HB; have HO305 := n0_; have HO308 := n1_; have HO312 := n2_; have BK301 := n3_; have HB := n4_; clear n0_ n1_ n2_ n3_ n4_; (try clear hb); (try clear hb2); (try clear hk); (try clear hi)) | ((with_reducible refine gate_dst (N := 9) rfl ?_); refine box_event ?hg (N := 9) ?hd (cs := #[.int .i64 0, .int .i64 0, .int .i64 0, .string (⟨#[]⟩ : ByteArray), .int .i64 0]) (t := 24) ?hr ?_; (case hd => rfl); (case hg => rfl); (case hr => first | (go_simp; done) | (go_simp; rfl)); intro gb320 hg w23 hbox hb; have n0_ := Aside0.mk (Kd.V_below (Kd.V_elderB (by (with_reducible repeat (first | apply Kd.V_alloc | apply Kd.V_drewN | apply Kd.V_drew)); exact HO305.out) gb320 (Nat.le_of_eq hg.symm)) hb); have n1_ := Aside0.mk (Kd.R_below (by (with_reducible repeat (first | apply Kd.R_alloc | apply Kd.R_drewN | apply Kd.R_drew)); exact HO308.out) hb); have n2_ := Aside0.mk (Kd.R_below (by (with_reducible repeat (first | apply Kd.R_alloc | apply Kd.R_drewN | apply Kd.R_drew)); exact HO312.out) hb); have n3_ := Aside0.mk (blk_below (g := gb301) (o := .cells #[.int .i64 a0_0, .int .i64 a0_1, .int .i64 a0_2, .string t302, .int .i64 a0_4] 24 (0, 0)) (by (with_reducible repeat (first | refine blk_drewN ?_ _ | refine blk_drew ?_ | refine blk_alloc ?_ _)); exact BK301.out) hb); have n4_ := Aside0.mk (below_step (by repeat (first | (with_reducible first | exact HB.out | apply below_alloc | apply pw_below_drewN | apply below_drew1 | refine below_set ?_ GE301.out) | exact HB.out)) hb); have n5_ := Aside0.mk (hbox); have n6_ := Aside0.mk ((by rw [hg]; exact (below_size (by repeat (first | (with_reducible first | exact HB.out | apply below_alloc | apply pw_below_drewN | apply below_drew1 | refine below_set ?_ GE301.out) | exact HB.out))) : w.heap.size ≤ gb320)); have n7_ := Aside0.mk ((by rw [hg]; exact (below_size (by repeat (first | (with_reducible first | exact HB.out | apply below_alloc | apply pw_below_drewN | apply below_drew1 | refine below_set ?_ GE301.out) | exact HB.out))) : w.heap.size ≤ gb320)); have n8_ := Aside0.mk ((by rw [hg]; exact Nat.ne_of_lt (blk_lt (g := gb301) (o := .cells #[.int .i64 a0_0, .int .i64 a0_1, .int .i64 a0_2, .string t302, .int .i64 a0_4] 24 (0, 0)) (by (with_reducible repeat (first | refine blk_drewN ?_ _ | refine blk_drew ?_ | refine blk_alloc ?_ _)); exact BK301.out)) : gb301 ≠ gb320)); have n9_ := Aside0.mk ((by rw [hg]; exact Nat.ne_of_gt (blk_lt (g := gb301) (o := .cells #[.int .i64 a0_0, .int .i64 a0_1, .int .i64 a0_2, .string t302, .int .i64 a0_4] 24 (0, 0)) (by (with_reducible repeat (first | refine blk_drewN ?_ _ | refine blk_drew ?_ | refine blk_alloc ?_ _)); exact BK301.out)) : gb320 ≠ gb301)); clear HO305; clear HO308; clear HO312; clear BK301; clear HB; have HO305 := n0_; have HO308 := n1_; have HO312 := n2_; have BK301 := n3_; have HB := n4_; have BK320 := n5_; have GW320 := n6_; have GE320 := n7_; have NB301_320 := n8_; have NB320_301 := n9_; clear n0_ n1_ n2_ n3_ n4_ n5_ n6_ n7_ n8_ n9_; clear hb hbox hg; have hnb24 := NB320_301.out; have hnc24 := NB301_320.out; have hcz25_0 : w23.cell? ⟨gb320, 0, none⟩ = some (.int .i64 0) := (blk_cell BK320.out 0).trans rfl; have hcz25_1 : w23.cell? ⟨gb320, 1, none⟩ = some (.int .i64 0) := (blk_cell BK320.out 1).trans rfl; have hcz25_2 : w23.cell? ⟨gb320, 2, none⟩ = some (.int .i64 0) := (blk_cell BK320.out 2).trans rfl; have hcz25_3 : w23.cell? ⟨gb320, 3, none⟩ = some (.string (⟨#[]⟩ : ByteArray)) := (blk_cell BK320.out 3).trans rfl; have hcz25_4 : w23.cell? ⟨gb320, 4, none⟩ = some (.int .i64 0) := (blk_cell BK320.out 4).trans rfl; have hfz25_0 := blk_frozen BK320.out 0; have hfz25_1 := blk_frozen BK320.out 1; have hfz25_2 := blk_frozen BK320.out 2; have hfz25_3 := blk_frozen BK320.out 3; have hfz25_4 := blk_frozen BK320.out 4) | ((with_reducible refine gate_callee (f := 13) rfl ?_); refine goesL_ (some 36) rfl rfl Try.func13 (by kernel_rfl) rfl #[.slice Ao21 t303.length co21] rfl (by (try simp only [List.map_toArray, List.map_cons, List.map_nil]); first | done | rfl | (simp only [List.length_drop, List.length_take]; rfl)) ?_; (with_reducible refine (lienref22_ReadMsg.calls k _ _ t303 t321 t322 t323 t324 t325 t326 _ ?side1 ?side2 A8.out).mono ?_); (case side1 => refine (Kd.V_reads' (e := 5) (base := w.heap.size) (ok := fun k_ => (((k_ ≠ gb301 ∧ some k_ ≠ (v307 : Value).ownBlock) ∧ some k_ ≠ (v311 : Value).ownBlock) ∧ k_ ≠ gb320)) (n := t303.length) (c := co21) ?_).2.2; exact (by (with_reducible repeat (first | apply Kd.V_alloc | apply Kd.V_drewN | apply Kd.V_drew)); exact (Kd.V_mono (Kd.V_far (p := ⟨gb320, 4, none⟩) (Kd.V_far (p := ⟨gb320, 3, none⟩) (Kd.V_far (p := ⟨gb320, 2, none⟩) (Kd.V_far (p := ⟨gb320, 1, none⟩) (Kd.V_far (p := ⟨gb320, 0, none⟩) (Kd.V_mono HO305.out (fun k_ hk => (⟨hk, hk.2⟩ : _ ∧ k_ ≠ gb320))) (fun _ hk => hk.2) (.int .i64 t314)) (fun _ hk => hk.2) (.int .i64 t315)) (fun _ hk => hk.2) (.int .i64 t316)) (fun _ hk => hk.2) (.string t317)) (fun _ hk => hk.2) (.int .i64 t318)) (fun _ h_ => h_.1)))); (case side2 => exact (Kd.V_reads' HO305.out).2.1); rintro e w26 ⟨rfl, hb⟩; refine ⟨_, rfl, ?_⟩; have n0_ := Aside0.mk (Kd.V_below (by (with_reducible repeat (first | apply Kd.V_alloc | apply Kd.V_drewN | apply Kd.V_drew)); exact (Kd.V_mono (Kd.V_far (p := ⟨gb320, 4, none⟩) (Kd.V_far (p := ⟨gb320, 3, none⟩) (Kd.V_far (p := ⟨gb320, 2, none⟩) (Kd.V_far (p := ⟨gb320, 1, none⟩) (Kd.V_far (p := ⟨gb320, 0, none⟩) (Kd.V_mono HO305.out (fun k_ hk => (⟨hk, hk.2⟩ : _ ∧ k_ ≠ gb320))) (fun _ hk => hk.2) (.int .i64 t314)) (fun _ hk => hk.2) (.int .i64 t315)) (fun _ hk => hk.2) (.int .i64 t316)) (fun _ hk => hk.2) (.string t317)) (fun _ hk => hk.2) (.int .i64 t318)) (fun _ h_ => h_.1))) hb); have n1_ := Aside0.mk (Kd.R_below (by (with_reducible repeat (first | apply Kd.R_alloc | apply Kd.R_drewN | apply Kd.R_drew)); exact (Kd.R_mono (Kd.R_far (p := ⟨gb320, 4, none⟩) (Kd.R_far (p := ⟨gb320, 3, none⟩) (Kd.R_far (p := ⟨gb320, 2, none⟩) (Kd.R_far (p := ⟨gb320, 1, none⟩) (Kd.R_far (p := ⟨gb320, 0, none⟩) (Kd.R_types HO308.out BK320.out (by decide)) (fun _ hk => hk.2) (.int .i64 t314)) (fun _ hk => hk.2) (.int .i64 t315)) (fun _ hk => hk.2) (.int .i64 t316)) (fun _ hk => hk.2) (.string t317)) (fun _ hk => hk.2) (.int .i64 t318)) (fun _ h_ => h_.1))) hb); have n2_ := Aside0.mk (Kd.R_below (by (with_reducible repeat (first | apply Kd.R_alloc | apply Kd.R_drewN | apply Kd.R_drew)); exact (Kd.R_mono (Kd.R_far (p := ⟨gb320, 4, none⟩) (Kd.R_far (p := ⟨gb320, 3, none⟩) (Kd.R_far (p := ⟨gb320, 2, none⟩) (Kd.R_far (p := ⟨gb320, 1, none⟩) (Kd.R_far (p := ⟨gb320, 0, none⟩) (Kd.R_types HO312.out BK320.out (by decide)) (fun _ hk => hk.2) (.int .i64 t314)) (fun _ hk => hk.2) (.int .i64 t315)) (fun _ hk => hk.2) (.int .i64 t316)) (fun _ hk => hk.2) (.string t317)) (fun _ hk => hk.2) (.int .i64 t318)) (fun _ h_ => h_.1))) hb); have n3_ := Aside0.mk (blk_below (g := gb301) (o := .cells #[.int .i64 a0_0, .int .i64 a0_1, .int .i64 a0_2, .string t302, .int .i64 a0_4] 24 (0, 0)) (by (with_reducible repeat (first | refine blk_drewN ?_ _ | refine blk_drew ?_ | refine blk_alloc ?_ _)); refine blk_far ?_ NB301_320.out _; (with_reducible repeat (first | refine blk_drewN ?_ _ | refine blk_drew ?_ | refine blk_alloc ?_ _)); refine blk_far ?_ NB301_320.out _; (with_reducible repeat (first | refine blk_drewN ?_ _ | refine blk_drew ?_ | refine blk_alloc ?_ _)); refine blk_far ?_ NB301_320.out _; (with_reducible repeat (first | refine blk_drewN ?_ _ | refine blk_drew ?_ | refine blk_alloc ?_ _)); refine blk_far ?_ NB301_320.out _; (with_reducible repeat (first | refine blk_drewN ?_ _ | refine blk_drew ?_ | refine blk_alloc ?_ _)); refine blk_far ?_ NB301_320.out _; (with_reducible repeat (first | refine blk_drewN ?_ _ | refine blk_drew ?_ | refine blk_alloc ?_ _)); exact BK301.out) hb); have n4_ := Aside0.mk (blk_below (g := gb320) (o := .cells #[.int .i64 t314, .int .i64 t315, .int .i64 t316, .string t317, .int .i64 t318] 24 (0, 0)) (by (with_reducible repeat (first | refine blk_drewN ?_ _ | refine blk_drew ?_ | refine blk_alloc ?_ _)); refine blk_put (cs := #[.int .i64 t314, .int .i64 t315, .int .i64 t316, .string t317, .int .i64 0]) ?_ 4 _ rfl; (with_reducible repeat (first | refine blk_drewN ?_ _ | refine blk_drew ?_ | refine blk_alloc ?_ _)); refine blk_put (cs := #[.int .i64 t314, .int .i64 t315, .int .i64 t316, .string (⟨#[]⟩ : ByteArray), .int .i64 0]) ?_ 3 _ rfl; (with_reducible repeat (first | refine blk_drewN ?_ _ | refine blk_drew ?_ | refine blk_alloc ?_ _)); refine blk_put (cs := #[.int .i64 t314, .int .i64 t315, .int .i64 0, .string (⟨#[]⟩ : ByteArray), .int .i64 0]) ?_ 2 _ rfl; (with_reducible repeat (first | refine blk_drewN ?_ _ | refine blk_drew ?_ | refine blk_alloc ?_ _)); refine blk_put (cs := #[.int .i64 t314, .int .i64 0, .int .i64 0, .string (⟨#[]⟩ : ByteArray), .int .i64 0]) ?_ 1 _ rfl; (with_reducible repeat (first | refine blk_drewN ?_ _ | refine blk_drew ?_ | refine blk_alloc ?_ _)); refine blk_put (cs := #[.int .i64 0, .int .i64 0, .int .i64 0, .string (⟨#[]⟩ : ByteArray), .int .i64 0]) ?_ 0 _ rfl; (with_reducible repeat (first | refine blk_drewN ?_ _ | refine blk_drew ?_ | refine blk_alloc ?_ _)); exact BK320.out) hb); have n5_ := Aside0.mk (below_step (by repeat (first | (with_reducible first | exact HB.out | apply below_alloc | apply pw_below_drewN | apply below_drew1 | refine below_set ?_ GE301.out | refine below_set ?_ GE320.out) | exact HB.out)) hb); clear HO305; clear HO308; clear HO312; clear BK301; clear BK320; clear HB; have HO305 := n0_; have HO308 := n1_; have HO312 := n2_; have BK301 := n3_; have BK320 := n4_; have HB := n5_; clear n0_ n1_ n2_ n3_ n4_ n5_; (try clear hb); (try clear hb2); (try clear hk); (try clear hi)) | ((with_reducible refine gate_dst (N := 11) rfl ?_); refine box_event ?hg (N := 11) ?hd (cs := #[.int .i64 0, .int .i64 0, .int .i64 0, .string (⟨#[]⟩ : ByteArray), .int .i64 0]) (t := 24) ?hr ?_; (case hd => rfl); (case hg => rfl); (case hr => first | (go_simp; done) | (go_simp; rfl)); intro gb327 hg w27 hbox hb; have n0_ := Aside0.mk (Kd.V_below (Kd.V_elderB (by (with_reducible repeat (first | apply Kd.V_alloc | apply Kd.V_drewN | apply Kd.V_drew)); exact HO305.out) gb327 (Nat.le_of_eq hg.symm)) hb); have n1_ := Aside0.mk (Kd.R_below (by (with_reducible repeat (first | apply Kd.R_alloc | apply Kd.R_drewN | apply Kd.R_drew)); exact HO308.out) hb); have n2_ := Aside0.mk (Kd.R_below (by (with_reducible repeat (first | apply Kd.R_alloc | apply Kd.R_drewN | apply Kd.R_drew)); exact HO312.out) hb); have n3_ := Aside0.mk (blk_below (g := gb301) (o := .cells #[.int .i64 a0_0, .int .i64 a0_1, .int .i64 a0_2, .string t302, .int .i64 a0_4] 24 (0, 0)) (by (with_reducible repeat (first | refine blk_drewN ?_ _ | refine blk_drew ?_ | refine blk_alloc ?_ _)); exact BK301.out) hb); have n4_ := Aside0.mk (blk_below (g := gb320) (o := .cells #[.int .i64 t314, .int .i64 t315, .int .i64 t316, .string t317, .int .i64 t318] 24 (0, 0)) (by (with_reducible repeat (first | refine blk_drewN ?_ _ | refine blk_drew ?_ | refine blk_alloc ?_ _)); exact BK320.out) hb); have n5_ := Aside0.mk (below_step (by repeat (first | (with_reducible first | exact HB.out | apply below_alloc | apply pw_below_drewN | apply below_drew1 | refine below_set ?_ GE301.out | refine below_set ?_ GE320.out) | exact HB.out)) hb); have n6_ := Aside0.mk (hbox); have n7_ := Aside0.mk ((by rw [hg]; exact (below_size (by repeat (first | (with_reducible first | exact HB.out | apply below_alloc | apply pw_below_drewN | apply below_drew1 | refine below_set ?_ GE301.out | refine below_set ?_ GE320.out) | exact HB.out))) : w.heap.size ≤ gb327)); have n8_ := Aside0.mk ((by rw [hg]; exact (below_size (by repeat (first | (with_reducible first | exact HB.out | apply below_alloc | apply pw_below_drewN | apply below_drew1 | refine below_set ?_ GE301.out | refine below_set ?_ GE320.out) | exact HB.out))) : w.heap.size ≤ gb327)); have n9_ := Aside0.mk ((by rw [hg]; exact Nat.ne_of_lt (blk_lt (g := gb301) (o := .cells #[.int .i64 a0_0, .int .i64 a0_1, .int .i64 a0_2, .string t302, .int .i64 a0_4] 24 (0, 0)) (by (with_reducible repeat (first | refine blk_drewN ?_ _ | refine blk_drew ?_ | refine blk_alloc ?_ _)); exact BK301.out)) : gb301 ≠ gb327)); have n10_ := Aside0.mk ((by rw [hg]; exact Nat.ne_of_gt (blk_lt (g := gb301) (o := .cells #[.int .i64 a0_0, .int .i64 a0_1, .int .i64 a0_2, .string t302, .int .i64 a0_4] 24 (0, 0)) (by (with_reducible repeat (first | refine blk_drewN ?_ _ | refine blk_drew ?_ | refine blk_alloc ?_ _)); exact BK301.out)) : gb327 ≠ gb301)); have n11_ := Aside0.mk ((by rw [hg]; exact Nat.ne_of_lt (blk_lt (g := gb320) (o := .cells #[.int .i64 t314, .int .i64 t315, .int .i64 t316, .string t317, .int .i64 t318] 24 (0, 0)) (by (with_reducible repeat (first | refine blk_drewN ?_ _ | refine blk_drew ?_ | refine blk_alloc ?_ _)); exact BK320.out)) : gb320 ≠ gb327)); have n12_ := Aside0.mk ((by rw [hg]; exact Nat.ne_of_gt (blk_lt (g := gb320) (o := .cells #[.int .i64 t314, .int .i64 t315, .int .i64 t316, .string t317, .int .i64 t318] 24 (0, 0)) (by (with_reducible repeat (first | refine blk_drewN ?_ _ | refine blk_drew ?_ | refine blk_alloc ?_ _)); exact BK320.out)) : gb327 ≠ gb320)); clear HO305; clear HO308; clear HO312; clear BK301; clear BK320; clear HB; have HO305 := n0_; have HO308 := n1_; have HO312 := n2_; have BK301 := n3_; have BK320 := n4_; have HB := n5_; have BK327 := n6_; have GW327 := n7_; have GE327 := n8_; have NB301_327 := n9_; have NB327_301 := n10_; have NB320_327 := n11_; have NB327_320 := n12_; clear n0_ n1_ n2_ n3_ n4_ n5_ n6_ n7_ n8_ n9_ n10_ n11_ n12_; clear hb hbox hg; have hnb28 := NB327_301.out; have hnc28 := NB301_327.out; have hnb29 := NB327_320.out; have hnc29 := NB320_327.out; have hcz30_0 : w27.cell? ⟨gb327, 0, none⟩ = some (.int .i64 0) := (blk_cell BK327.out 0).trans rfl; have hcz30_1 : w27.cell? ⟨gb327, 1, none⟩ = some (.int .i64 0) := (blk_cell BK327.out 1).trans rfl; have hcz30_2 : w27.cell? ⟨gb327, 2, none⟩ = some (.int .i64 0) := (blk_cell BK327.out 2).trans rfl; have hcz30_3 : w27.cell? ⟨gb327, 3, none⟩ = some (.string (⟨#[]⟩ : ByteArray)) := (blk_cell BK327.out 3).trans rfl; have hcz30_4 : w27.cell? ⟨gb327, 4, none⟩ = some (.int .i64 0) := (blk_cell BK327.out 4).trans rfl; have hfz30_0 := blk_frozen BK327.out 0; have hfz30_1 := blk_frozen BK327.out 1; have hfz30_2 := blk_frozen BK327.out 2; have hfz30_3 := blk_frozen BK327.out 3; have hfz30_4 := blk_frozen BK327.out 4; have hcv31 := own_string (P := Try.prog) Try.underlying25 Try.underlying5 Try.underlying9 (Kd.own_of_R HO308.out); have hcv31y := fun (u0 u1 u2 u3 u4 : Value) => own_string (P := Try.prog) Try.underlying25 Try.underlying5 Try.underlying9 (Kd.own_of_R (Kd.R_set (Kd.R_set (Kd.R_set (Kd.R_set (Kd.R_set HO308.out BK327.out (by decide) 0 u0) (blk_set BK327.out 0 u0) (by decide) 1 u1) (blk_set (blk_set BK327.out 0 u0) 1 u1) (by decide) 2 u2) (blk_set (blk_set (blk_set BK327.out 0 u0) 1 u1) 2 u2) (by decide) 3 u3) (blk_set (blk_set (blk_set (blk_set BK327.out 0 u0) 1 u1) 2 u2) 3 u3) (by decide) 4 u4)); have hcv32 := own_string (P := Try.prog) Try.underlying25 Try.underlying5 Try.underlying9 (Kd.own_of_R HO312.out); have hcv32y := fun (u0 u1 u2 u3 u4 : Value) => own_string (P := Try.prog) Try.underlying25 Try.underlying5 Try.underlying9 (Kd.own_of_R (Kd.R_set (Kd.R_set (Kd.R_set (Kd.R_set (Kd.R_set HO312.out BK327.out (by decide) 0 u0) (blk_set BK327.out 0 u0) (by decide) 1 u1) (blk_set (blk_set BK327.out 0 u0) 1 u1) (by decide) 2 u2) (blk_set (blk_set (blk_set BK327.out 0 u0) 1 u1) 2 u2) (by decide) 3 u3) (blk_set (blk_set (blk_set (blk_set BK327.out 0 u0) 1 u1) 2 u2) 3 u3) (by decide) 4 u4)); have hcz33_0 : w27.cell? ⟨gb320, 0, none⟩ = some (.int .i64 t314) := (blk_cell BK320.out 0).trans rfl; have hcz33_1 : w27.cell? ⟨gb320, 1, none⟩ = some (.int .i64 t315) := (blk_cell BK320.out 1).trans rfl; have hcz33_2 : w27.cell? ⟨gb320, 2, none⟩ = some (.int .i64 t316) := (blk_cell BK320.out 2).trans rfl; have hcz33_3 : w27.cell? ⟨gb320, 3, none⟩ = some (.string t317) := (blk_cell BK320.out 3).trans rfl; have hcz33_4 : w27.cell? ⟨gb320, 4, none⟩ = some (.int .i64 t318) := (blk_cell BK320.out 4).trans rfl; have hfz33_0 := blk_frozen BK320.out 0; have hfz33_1 := blk_frozen BK320.out 1; have hfz33_2 := blk_frozen BK320.out 2; have hfz33_3 := blk_frozen BK320.out 3; have hfz33_4 := blk_frozen BK320.out 4) | (go_at_call 14; (with_reducible refine (lienlaw22_awake.calls k  t328 _ A13.out).mono ?_); rintro e w34 ⟨rfl, hb⟩; have n0_ := Aside0.mk (Kd.V_below (by (with_reducible repeat (first | apply Kd.V_alloc | apply Kd.V_drewN | apply Kd.V_drew)); exact (Kd.V_mono (Kd.V_far (p := ⟨gb327, 4, none⟩) (Kd.V_far (p := ⟨gb327, 3, none⟩) (Kd.V_far (p := ⟨gb327, 2, none⟩) (Kd.V_far (p := ⟨gb327, 1, none⟩) (Kd.V_far (p := ⟨gb327, 0, none⟩) (Kd.V_mono HO305.out (fun k_ hk => (⟨hk, hk.2⟩ : _ ∧ k_ ≠ gb327))) (fun _ hk => hk.2) (.int .i64 t321)) (fun _ hk => hk.2) (.int .i64 t322)) (fun _ hk => hk.2) (.int .i64 t323)) (fun _ hk => hk.2) (.string t324)) (fun _ hk => hk.2) (.int .i64 t325)) (fun _ h_ => h_.1))) hb); have n1_ := Aside0.mk (Kd.R_below (by (with_reducible repeat (first | apply Kd.R_alloc | apply Kd.R_drewN | apply Kd.R_drew)); exact (Kd.R_mono (Kd.R_far (p := ⟨gb327, 4, none⟩) (Kd.R_far (p := ⟨gb327, 3, none⟩) (Kd.R_far (p := ⟨gb327, 2, none⟩) (Kd.R_far (p := ⟨gb327, 1, none⟩) (Kd.R_far (p := ⟨gb327, 0, none⟩) (Kd.R_types HO308.out BK327.out (by decide)) (fun _ hk => hk.2) (.int .i64 t321)) (fun _ hk => hk.2) (.int .i64 t322)) (fun _ hk => hk.2) (.int .i64 t323)) (fun _ hk => hk.2) (.string t324)) (fun _ hk => hk.2) (.int .i64 t325)) (fun _ h_ => h_.1))) hb); have n2_ := Aside0.mk (Kd.R_below (by (with_reducible repeat (first | apply Kd.R_alloc | apply Kd.R_drewN | apply Kd.R_drew)); exact (Kd.R_mono (Kd.R_far (p := ⟨gb327, 4, none⟩) (Kd.R_far (p := ⟨gb327, 3, none⟩) (Kd.R_far (p := ⟨gb327, 2, none⟩) (Kd.R_far (p := ⟨gb327, 1, none⟩) (Kd.R_far (p := ⟨gb327, 0, none⟩) (Kd.R_types HO312.out BK327.out (by decide)) (fun _ hk => hk.2) (.int .i64 t321)) (fun _ hk => hk.2) (.int .i64 t322)) (fun _ hk => hk.2) (.int .i64 t323)) (fun _ hk => hk.2) (.string t324)) (fun _ hk => hk.2) (.int .i64 t325)) (fun _ h_ => h_.1))) hb); have n3_ := Aside0.mk (blk_below (g := gb301) (o := .cells #[.int .i64 a0_0, .int .i64 a0_1, .int .i64 a0_2, .string t302, .int .i64 a0_4] 24 (0, 0)) (by (with_reducible repeat (first | refine blk_drewN ?_ _ | refine blk_drew ?_ | refine blk_alloc ?_ _)); refine blk_far ?_ NB301_327.out _; (with_reducible repeat (first | refine blk_drewN ?_ _ | refine blk_drew ?_ | refine blk_alloc ?_ _)); refine blk_far ?_ NB301_327.out _; (with_reducible repeat (first | refine blk_drewN ?_ _ | refine blk_drew ?_ | refine blk_alloc ?_ _)); refine blk_far ?_ NB301_327.out _; (with_reducible repeat (first | refine blk_drewN ?_ _ | refine blk_drew ?_ | refine blk_alloc ?_ _)); refine blk_far ?_ NB301_327.out _; (with_reducible repeat (first | refine blk_drewN ?_ _ | refine blk_drew ?_ | refine blk_alloc ?_ _)); refine blk_far ?_ NB301_327.out _; (with_reducible repeat (first | refine blk_drewN ?_ _ | refine blk_drew ?_ | refine blk_alloc ?_ _)); exact BK301.out) hb); have n4_ := Aside0.mk (blk_below (g := gb320) (o := .cells #[.int .i64 t314, .int .i64 t315, .int .i64 t316, .string t317, .int .i64 t318] 24 (0, 0)) (by (with_reducible repeat (first | refine blk_drewN ?_ _ | refine blk_drew ?_ | refine blk_alloc ?_ _)); refine blk_far ?_ NB320_327.out _; (with_reducible repeat (first | refine blk_drewN ?_ _ | refine blk_drew ?_ | refine blk_alloc ?_ _)); refine blk_far ?_ NB320_327.out _; (with_reducible repeat (first | refine blk_drewN ?_ _ | refine blk_drew ?_ | refine blk_alloc ?_ _)); refine blk_far ?_ NB320_327.out _; (with_reducible repeat (first | refine blk_drewN ?_ _ | refine blk_drew ?_ | refine blk_alloc ?_ _)); refine blk_far ?_ NB320_327.out _; (with_reducible repeat (first | refine blk_drewN ?_ _ | refine blk_drew ?_ | refine blk_alloc ?_ _)); refine blk_far ?_ NB320_327.out _; (with_reducible repeat (first | refine blk_drewN ?_ _ | refine blk_drew ?_ | refine blk_alloc ?_ _)); exact BK320.out) hb); have n5_ := Aside0.mk (blk_below (g := gb327) (o := .cells #[.int .i64 t321, .int .i64 t322, .int .i64 t323, .string t324, .int .i64 t325] 24 (0, 0)) (by (with_reducible repeat (first | refine blk_drewN ?_ _ | refine blk_drew ?_ | refine blk_alloc ?_ _)); refine blk_put (cs := #[.int .i64 t321, .int .i64 t322, .int .i64 t323, .string t324, .int .i64 0]) ?_ 4 _ rfl; (with_reducible repeat (first | refine blk_drewN ?_ _ | refine blk_drew ?_ | refine blk_alloc ?_ _)); refine blk_put (cs := #[.int .i64 t321, .int .i64 t322, .int .i64 t323, .string (⟨#[]⟩ : ByteArray), .int .i64 0]) ?_ 3 _ rfl; (with_reducible repeat (first | refine blk_drewN ?_ _ | refine blk_drew ?_ | refine blk_alloc ?_ _)); refine blk_put (cs := #[.int .i64 t321, .int .i64 t322, .int .i64 0, .string (⟨#[]⟩ : ByteArray), .int .i64 0]) ?_ 2 _ rfl; (with_reducible repeat (first | refine blk_drewN ?_ _ | refine blk_drew ?_ | refine blk_alloc ?_ _)); refine blk_put (cs := #[.int .i64 t321, .int .i64 0, .int .i64 0, .string (⟨#[]⟩ : ByteArray), .int .i64 0]) ?_ 1 _ rfl; (with_reducible repeat (first | refine blk_drewN ?_ _ | refine blk_drew ?_ | refine blk_alloc ?_ _)); refine blk_put (cs := #[.int .i64 0, .int .i64 0, .int .i64 0, .string (⟨#[]⟩ : ByteArray), .int .i64 0]) ?_ 0 _ rfl; (with_reducible repeat (first | refine blk_drewN ?_ _ | refine blk_drew ?_ | refine blk_alloc ?_ _)); exact BK327.out) hb); have n6_ := Aside0.mk (below_step (by repeat (first | (with_reducible first | exact HB.out | apply below_alloc | apply pw_below_drewN | apply below_drew1 | refine below_set ?_ GE301.out | refine below_set ?_ GE320.out | refine below_set ?_ GE327.out) | exact HB.out)) hb); clear HO305; clear HO308; clear HO312; clear BK301; clear BK320; clear BK327; clear HB; have HO305 := n0_; have HO308 := n1_; have HO312 := n2_; have BK301 := n3_; have BK320 := n4_; have BK327 := n5_; have HB := n6_; clear n0_ n1_ n2_ n3_ n4_ n5_ n6_; (try clear hb); (try clear hb2); (try clear hk); (try clear hi)))
          go_ret
          exact ⟨by first | rfl | (simp [errW_none, errW_some] <;> rfl) | (simp [*, errW_none, errW_some] <;> rfl), by repeat (first | (with_reducible first | exact HB.out | apply below_alloc | apply pw_below_drewN | apply below_drew1 | refine below_set ?_ GE301.out | refine below_set ?_ GE320.out | refine below_set ?_ GE327.out) | exact HB.out)⟩
        · rw [if_neg c12] at H
          have c12b0 : (t319 == t326) = false := beq_eq_false_iff_ne.mpr c12
          have c12b1 : (t319 != t326) = true := bne_iff_ne.mpr c12
          exact absurd ((Option.some.inj H).trans hr_.out) (by decide)
      · rw [if_neg c11] at H
        have c11b0 : (t314 == t321 && (t315 == t322 && (t316 == t323 && (t317.toList == t324.toList && (t318 == t325))))) = false := by simpa using c11
        (try (have c11b1 : decide (t314 = t321 && (t315 == t322 && (t316 == t323 && (t317.toList == t324.toList && (t318 == t325))))) = false := by simpa using c11))
        (try (have c11b2 : (t314 == t321 && (t315 == t322 && (t316 == t323 && (t317.toList == t324.toList && (t318 == t325))))) = false := by simpa using c11))
        (try (have c11b3 : ¬ (t314 = t321 && (t315 == t322 && (t316 == t323 && (t317.toList == t324.toList && (t318 == t325))))) := by simpa using c11))
        clear c11
        exact absurd ((Option.some.inj H).trans hr_.out) (by decide)
    · rw [if_neg c10] at H
      have c10b0 : (t309 == t313) = false := beq_eq_false_iff_ne.mpr c10
      have c10b1 : (t309 != t313) = true := bne_iff_ne.mpr c10
      exact absurd ((Option.some.inj H).trans hr_.out) (by decide)
  · rw [if_neg c9] at H
    have c9b0 : ((strOfNums t306).toList == (strOfNums t310).toList) = false := beq_eq_false_iff_ne.mpr c9
    have c9b1 : ((strOfNums t306).toList != (strOfNums t310).toList) = true := bne_iff_ne.mpr c9
    exact absurd ((Option.some.inj H).trans hr_.out) (by decide)

/-- THE ONE PURE STATEMENT of lienlaw22_WireMsgs: yours. -/
def lienlaw22_WireMsgs.Pure : Prop := ∀ (a0_0 : Int) (a0_1 : Int) (a0_2 : Int) (a0_3 : ByteArray) (a0_4 : Int) (l1 : List Int), ((Lit.int .i64 a0_0).wf = true) → ((Lit.int .i64 a0_1).wf = true) → ((Lit.int .i64 a0_2).wf = true) → (a0_3.size ≤ 140737488351232) → ((Lit.int .i64 a0_4).wf = true) → (l1.length * 1 ≤ 140737488351232 ∧ l1.length ≤ maxLen ∧ ∀ a ∈ l1, (Lit.int .u8 a).wf = true) → ∃ k, lienlaw22_WireMsgs.f k a0_0 a0_1 a0_2 a0_3 a0_4 l1 = some true

end Go.Proofs.Ytklnnmgfoebbhaa.PWireMsgs
