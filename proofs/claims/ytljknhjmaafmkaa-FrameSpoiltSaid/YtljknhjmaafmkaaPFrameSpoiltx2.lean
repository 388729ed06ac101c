-- Written by wip/xprint of this repo (our own program) out of the translation; what is marked BY HAND is ours. Not trusted: Lean checks it.
import Derived.Test.YtljknhjmaafmkaaPFrameSpoiltx0
import Derived.Test.YtljknhjmaafmkaaPFrameSpoiltx1
namespace Go.Proofs.Ytljknhjmaafmkaa.PFrameSpoilt
open Go.RowKit Go.Proofs.YtljknhjmaafmkaaW.PrintWords Go.Proofs.YtljknhjmaafmkaaW.PrintLast Go.Proofs.YtljknhjmaafmkaaW.PrintMore
attribute [local go_sem] max2_int min2_int max_two min_two max_three min_three max_four min_four   -- for this text's walks alone
set_option linter.unusedVariables false
set_option linter.unusedSimpArgs false

/-! ### frame_Encode: function 10 -/
-- BY HAND

theorem b8_nat {x : Int} (h0 : 0 ≤ x) (h1 : x < 256) : ∃ n : Nat, x = (n : Int) ∧ n < 256 := ⟨x.toNat, by omega, by omega⟩
def brow (l : List Int) : Array Value := (nums .u8 l).toArray
theorem brow_size (l : List Int) : (brow l).size = l.length := by simp [brow, nums]
theorem brow_at (l : List Int) (i : Nat) : (brow l)[i]? = l[i]?.map (Value.int .u8) := by simp [brow, nums]
theorem brow_at' {l : List Int} {i : Nat} (h : i < l.length) : (brow l)[i]? = some (Value.int .u8 (rd l (i : Int))) := by
  rw [brow_at, List.getElem?_eq_getElem h]
  simp [rd, List.getD_eq_getElem?_getD, h]
theorem brow_put (l : List Int) (i : Nat) (x : Int) : (brow l).setIfInBounds i (.int .u8 x) = brow (l.set i x) := by
  simp [brow, nums]
/-- A number's bytes, the lowest first, from a place on. -/
def frPut : Nat → Nat → Nat → List Int → List Int
  | 0, _, _, l => l
  | s + 1, n, at_, l => frPut s (n / 256) (at_ + 1) (l.set at_ ((n % 256 : Nat) : Int))
theorem frPut_len : ∀ (s n a : Nat) (l : List Int), (frPut s n a l).length = l.length
  | 0, _, _, _ => rfl
  | s + 1, n, a, l => by rw [frPut, frPut_len s, List.length_set]
/-- What bytes from a place on are, the lowest first. -/
def frNum : Nat → Nat → List Int → Nat
  | 0, _, _ => 0
  | s + 1, a, l => (rd l (a : Int)).toNat + 256 * frNum s (a + 1) l
theorem frNum_lt {l : List Int} (hl : ∀ i : Int, (rd l i).toNat < 256) : ∀ s a, frNum s a l < 256 ^ s
  | 0, _ => by simp [frNum]
  | s + 1, a => by
    have := frNum_lt hl s (a + 1)
    have h2 := hl (a : Int)
    rw [frNum, Nat.pow_succ]
    omega
theorem frNum_snoc (l : List Int) : ∀ s a, frNum (s + 1) a l = frNum s a l + 256 ^ s * (rd l ((a + s : Nat) : Int)).toNat
  | 0, a => by simp [frNum]
  | s + 1, a => by
    rw [frNum, frNum_snoc l s (a + 1), frNum, Nat.pow_succ, show a + 1 + s = a + (s + 1) by omega]
    generalize 256 ^ s = q
    rw [Nat.mul_add, Nat.mul_comm q 256, Nat.mul_assoc]
    omega
theorem u32_and255 {a : Nat} (ha : a < 2 ^ 32) : Go.bits .and .u32 (a : Int) 255 = ((a % 256 : Nat) : Int) := by
  have q := u32_and ha (show 255 < 2 ^ 32 by decide)
  rw [show (255 : Nat) = 2 ^ 8 - 1 from rfl, Nat.and_two_pow_sub_one_eq_mod] at q
  exact q
theorem u32_or_disj {a b s : Nat} (ha : a < 2 ^ s) (hb : b * 2 ^ s < 2 ^ 32) (hs : s ≤ 32) : Go.bits .or .u32 (a : Int) ((b * 2 ^ s : Nat) : Int) = ((a + b * 2 ^ s : Nat) : Int) := by
  have ha2 : a < 2 ^ 32 := Nat.lt_of_lt_of_le ha (Nat.pow_le_pow_right (by decide) hs)
  have e : (BitVec.ofInt 32 (a : Int) ||| BitVec.ofInt 32 ((b * 2 ^ s : Nat) : Int)).toNat = a ||| (b * 2 ^ s) := by rw [BitVec.toNat_or, u32_ofInt ha2, u32_ofInt hb]
  have e2 : a ||| (b * 2 ^ s) = a + b * 2 ^ s := by
    rw [Nat.or_comm, Nat.mul_comm, ← Nat.two_pow_add_eq_or_of_lt ha, Nat.add_comm]
  show IntKind.u32.wrap ((BitVec.ofInt 32 (a : Int) ||| BitVec.ofInt 32 ((b * 2 ^ s : Nat) : Int)).toNat : Int) = _
  rw [e, e2, u32_wrap]
  rw [← e2]
  exact Nat.or_lt_two_pow ha2 hb

set_option maxHeartbeats 4000000 in
set_option maxRecDepth 100000 in
theorem fr_put (gb ga n0 size at0 : Nat) (l0 : List Int) (w : World) (hB : w.heap[gb]? = some (.cells (brow l0) 44 (0, 0))) (hA : w.heap[ga]? = some (.cells #[.int .i64 (at0 : Int)] 3 (0, 0))) (hn : n0 < 2 ^ 32) (hl : l0.length = 128) (hs : at0 + size ≤ 128) :
    Calls Try.prog 20 #[.int .u32 (n0 : Int), .int .i64 (size : Int), .pointer (some ⟨gb, 0, none⟩), .pointer (some ⟨ga, 0, none⟩)] w fun e w' => e = .returned (.tuple #[]) ∧ w'.heap[gb]? = some (.cells (brow (frPut size n0 at0 l0)) 44 (0, 0)) ∧ w'.heap[ga]? = some (.cells #[.int .i64 ((at0 + size : Nat) : Int)] 3 (0, 0)) ∧ ∀ b, b ≤ gb → b ≤ ga → Below b w w' := by
  have hne : gb ≠ ga := blk_ne hB hA (by decide)
  obtain ⟨R, hR⟩ : ∃ R, frPut size n0 at0 l0 = R := ⟨_, rfl⟩
  obtain ⟨E, hE⟩ : ∃ E, at0 + size = E := ⟨_, rfl⟩
  rw [hR, hE]
  have HB0 := Aside0.mk hB
  have HA0 := Aside0.mk hA
  have HR0 := Aside0.mk hR
  have HE0 := Aside0.mk hE
  have HS0 := Aside0.mk hs
  have HL0 := Aside0.mk hl
  have HN0 := Aside0.mk hn
  have HNE := Aside0.mk hne
  clear hB hA hR hE hs hl hn hne
  have hsz : (size : Int) ≤ 128 := by have := HS0.out; omega
  go_enter Try.func20, Try.ntmps20
  go_wp2
  go_loopg [0, 7] size (fun kq v0 v7 w' => ∃ (n j a : Nat) (l : List Int), v0 = .int .u32 (n : Int) ∧ v7 = .int .i64 (j : Int) ∧ Aside0 (kq + j = size) ∧ Aside0 (n < 2 ^ 32) ∧ Aside0 (a + kq = E) ∧ Aside0 (l.length = 128) ∧ Aside0 (frPut kq n a l = R) ∧ Aside0 (w'.heap[gb]? = some (.cells (brow l) 44 (0, 0))) ∧ Aside0 (w'.heap[ga]? = some (.cells #[.int .i64 (a : Int)] 3 (0, 0))) ∧ Aside0 (∀ b, b ≤ gb → b ≤ ga → Below b w w'))
  case atStart => exact ⟨n0, 0, at0, l0, rfl, rfl, ⟨rfl⟩, HN0, HE0, HL0, HR0, HB0, HA0, ⟨fun _ _ _ => Below.refl _ _⟩⟩
  case round =>
    clear HB0 HA0 HR0 HL0 HN0
    obtain ⟨n, j, a, l, rfl, rfl, HK, HN, HE, HL, HR, HB, HA, HW⟩ := hrel
    cases gk with
    | zero =>
      have ej : j = size := by have := HK.out; omega
      subst ej
      have er : l = R := HR.out
      have ea : a = E := HE.out
      subst er
      subst ea
      go_wp2
      go_end0
      exact ⟨rfl, HB.out, HA.out, HW.out⟩
    | succ d =>
      have hj : j < size := by have := HK.out; omega
      have hjb : decide ((j : Int) < (size : Int)) = true := decide_eq_true (by omega)
      have hjb' : decide (j < size) = true := decide_eq_true hj
      have ha : a < 128 := by have := HE.out; have := HE0.out; have := HS0.out; omega
      have hc := blk_cell HB.out a
      rw [brow_at' (by have := HL.out; omega)] at hc
      have hf := blk_frozen HB.out a
      have hc2 := blk_cell HA.out 0
      simp only [List.getElem?_toArray, List.getElem?_cons_zero] at hc2
      have hf2 := blk_frozen HA.out 0
      have hnn := HN.out
      have hand := u32_and255 hnn
      obtain ⟨x, hx⟩ : ∃ x, n % 256 = x := ⟨_, rfl⟩
      have hx' : x < 256 := by omega
      rw [hx] at hand
      have hxw : IntKind.u8.wrap (x : Int) = (x : Int) := by simp [IntKind.wrap, IntKind.bits, IntKind.signed]; omega

      have hne1 : ¬ gb = ga := HNE.out
      have hne2 : ¬ ga = gb := fun e => HNE.out e.symm
      have HX := Aside0.mk hx
      clear hx
      go_wp2
      go_roundg d
      case measure => omega
      case rel => exact ⟨n / 256, j + 1, a + 1, l.set a (x : Int), by first | rfl | (rw [show (n : Int) / 256 = ((n / 256 : Nat) : Int) by omega]), by first | rfl | (rw [show wrap64 ((j : Int) + 1) = ((j + 1 : Nat) : Int) from by unfold wrap64; omega]), ⟨by have := HK.out; omega⟩, ⟨by omega⟩, ⟨by have := HE.out; omega⟩, ⟨by rw [List.length_set]; exact HL.out⟩, ⟨by rw [← HX.out]; exact HR.out⟩, ⟨by rw [← brow_put]; exact blk_far (blk_set HB.out a _) HNE.out _⟩, ⟨by first | exact blk_put (blk_far HA.out (Ne.symm HNE.out) _) 0 _ rfl | exact blk_put (blk_far HA.out (Ne.symm HNE.out) _) 0 _ (by rw [show wrap64 ((a : Int) + 1) = ((a + 1 : Nat) : Int) from by unfold wrap64; omega]; rfl)⟩, ⟨fun b h1 h2 => (((HW.out b h1 h2).setCell (p := ⟨gb, a, none⟩) h1 _).setCell (p := ⟨ga, 0, none⟩) h2 _)⟩⟩

def frHead (n0 n1 n2 kd : Nat) (l : List Int) : List Int :=
  splice (frPut 4 n2 12 (frPut 4 n1 8 (frPut 4 n0 4 (frPut 2 l.length 2 (frPut 1 kd 1 (frPut 1 76 0 (List.replicate 128 0))))))) 16 l
theorem frHead_len (n0 n1 n2 kd : Nat) (l : List Int) (h : l.length ≤ 108) : (frHead n0 n1 n2 kd l).length = 128 := by
  unfold frHead
  rw [length_splice]
  · simp only [frPut_len, List.length_replicate]
  · simp only [frPut_len, List.length_replicate]; omega
theorem brow_splice (L : List Int) (i : Nat) (l : List Int) : (splice (nums .u8 L) i (nums .u8 l)).toArray = brow (splice L i l) := by
  simp [splice, brow, nums]
theorem Cm_sub {W : World} {g t : Nat} {L : List Int} (h : W.heap[g]? = some (.cells (brow L) t (0, 0))) (n : Nat) (hn : n ≤ L.length) (hs : L.length ≤ 128) : Kd.C (Kd.int .u8) W (some ⟨g, 0, none⟩) (L.take n).length (L.take n) := by
  refine ⟨rfl, by rw [List.length_take]; omega, fun _ => ⟨_, rfl, fun j p hj => ?_⟩⟩
  refine ⟨[.int .u8 p], rfl, rfl, fun i u hu => ?_⟩
  cases i with
  | succ i => simp at hu
  | zero =>
    have hu' : Value.int .u8 p = u := by simpa using hu
    subst hu'
    have hjn : j < n := by
      rcases Nat.lt_or_ge j n with h1 | h1
      · exact h1
      · rw [List.getElem?_eq_none (by rw [List.length_take]; omega)] at hj; cases hj
    rw [List.getElem?_take, if_pos hjn] at hj
    have hsz : (Kd.int .u8).sz = 1 := rfl
    have ha : (⟨g, 0, none⟩ : Addr).add (j * (Kd.int .u8).sz + 0) = ⟨g, j, none⟩ := by
      rw [hsz]
      unfold Addr.add
      simp
      try omega
    rw [ha, blk_cell h j, brow_at, hj]
    rfl
theorem R_brow {W : World} {g t b : Nat} {L : List Int} (h : W.heap[g]? = some (.cells (brow L) t (0, 0))) (hb : b ≤ g) (hs : L.length = 128) : Kd.R (Kd.int .u8) t W b (fun _ => True) (.slice (some ⟨g, 0, none⟩) 128 128) L := by
  refine ⟨fun _ _ => trivial, nums .u8 L, ?_, ?_⟩
  · have hs1 : (Kd.int .u8).sz = 1 := rfl
    refine ⟨by simp [nums, hs1], .inr ⟨g, 128, brow L, by rw [hs], hb, h, by omega, by decide, by rw [brow_size, hs, hs1], ?_⟩⟩
    rw [hs1, List.take_of_length_le]
    · rfl
    · simp [brow, nums]
  · have hs1 : (Kd.int .u8).sz = 1 := rfl
    refine ⟨by simp [nums, hs1], fun j p hj => ?_⟩
    show _ = _
    have hj' := (List.getElem?_eq_some_iff.1 hj).1
    rw [hs1, Nat.mul_one]
    unfold nums
    rw [← List.map_drop, ← List.map_take, List.drop_eq_getElem_cons hj']
    have := (List.getElem?_eq_some_iff.1 hj).2
    simp [this]
section
variable {P : Program} {ops : Array Oper} {rest : List Oper} {o : Oper} {a : Act} {Q : Exit → Act → World → Prop}
theorem fr_copy {w : World} (hgd : o.guard = none) (d s : Operand) (dT sT : TypeId)
    (ho : o.op = .call { callee := .builtin .copy, args := #[d, s], argTypes := #[dT, sT] }) (elem : TypeId) (hu : P.underlying dT = some (.slice elem)) (hsz : (P.info? elem).map (·.size) = some 1)
    (dp sp : Option Addr) (dLen dCap sLen sCap : Nat) (hd : a.eval d = .slice dp dLen dCap) (hs : a.eval s = .slice sp sLen sCap)
    (g off : Nat) (L l : List Int) (t : TypeId) (hg : w.heap[g]? = some (.cells (brow L) t (0, 0))) (hn : l.length = Nat.min sLen dLen)
    (hdp : dp = some ⟨g, off, none⟩) (hC : Kd.C (Kd.int .u8) w sp l.length l)
    (hfit : off + l.length ≤ L.length)
    (h : ∀ w', w'.heap[g]? = some (.cells (brow (splice L off l)) t (0, 0)) → (∀ k, k ≠ g → w'.heap[k]? = w.heap[k]?) → (∀ b, b ≤ g → Below b w w') → wpList P ops Q rest (a.put o.dst (goInt l.length)) w') :
    wpList P ops Q (o :: rest) a w := by
  subst hdp
  by_cases h0 : l.length = 0
  · obtain rfl : l = [] := List.eq_nil_of_length_eq_zero h0
    refine wpList_copy_nothing hgd d s dT sT ho elem hu hsz _ sp dLen dCap sLen sCap hd hs (by simpa using hn.symm) ?_
    exact h w (by rw [hg]; simp [splice]) (fun _ _ => rfl) (fun _ _ => Below.refl _ _)
  · obtain ⟨ad, rfl, hc⟩ := hC.2.2 (by omega)
    have hlen : (nums .u8 l).length = l.length := by simp [nums]
    have e := wpList_copy_own (P := P) (ops := ops) (rest := rest) (a := a) (Q := Q) (w := w) hgd d s dT sT ho elem hu hsz g off dLen dCap ad sLen sCap hd hs (brow L) t hg (nums .u8 l) (by rw [hlen]; exact hn) (fun j v hj => ?_) (by rw [hlen, brow_size]; exact hfit) (fun v hv => ?_)
    · refine e ?_
      rw [hlen]
      have e2 : (List.take off (brow L).toList ++ (nums .u8 l ++ List.drop (off + l.length) (brow L).toList)).toArray = brow (splice L off l) := by
        rw [← brow_splice]; simp [splice, brow, nums]
      rw [e2]
      exact h _ (setRow_heap w g _ _ t _ hg) (fun k hk => setRow_other w g k _ hk) (fun b hb => below_setRow (Below.refl _ _) hb _)
    · have hjl : j < l.length := by have := (List.getElem?_eq_some_iff.1 hj).1; rw [hlen] at this; exact this
      obtain ⟨c, hc1, hc2, hc3⟩ := hc j l[j] (List.getElem?_eq_getElem hjl)
      have hc2' : c = [.int .u8 l[j]] := hc2
      have := hc3 0 (.int .u8 l[j]) (by rw [hc2']; rfl)
      have hs1 : (Kd.int .u8).sz = 1 := rfl
      rw [hs1, Nat.mul_one, Nat.add_zero] at this
      rw [this]
      simp [nums, hjl] at hj
      rw [hj]
    · simp only [nums, List.mem_map] at hv
      obtain ⟨x, _, rfl⟩ := hv
      rfl
end
theorem fr_of (g : Nat) (L : List Int) (hL : L.length = 128) (s : Int) (hs : sum_Of.f (L.take 124) = some s) (w : World) (t : TypeId) (B8 : w.heap[g]? = some (.cells (brow L) t (0, 0))) :
    Calls Try.prog 21 #[.slice (some ⟨g, 0, none⟩) 124 128] w fun e w' => e = .returned (.int .u32 s) ∧ Below w.heap.size w w' := by
  have hl : (L.take 124).length = 124 := by rw [List.length_take]; omega
  have e := sum_Of.calls (some ⟨g, 0, none⟩) 128 (L.take 124) s w (Cm_sub B8 124 (by omega) (by omega)) (by omega) hs
  rw [hl] at e
  exact e

set_option maxHeartbeats 8000000 in
set_option maxRecDepth 100000 in
theorem fr_enc1 (s0 s1 s2 kind : Int) (A2 : Option Addr) (c2 : Nat) (l2 : List Int) (w : World) (hr2 : Kd.C (Kd.int .u8) w A2 l2.length l2) (hc2 : l2.length ≤ c2) (hchk : frame_Check.f s0 s1 s2 = some 1) :
    Calls Try.prog 10 #[.agg #[.int .i64 s0, .int .i64 s1, .int .i64 s2], .int .i64 kind, .slice A2 l2.length c2] w fun e w' => e = .returned (.tuple #[.slice none 0 0, .int .i64 1]) ∧ Below w.heap.size w w' := by
  have hu23 := Try.underlying23
  have hu44 := Try.underlying44
  have HC := Aside0.mk hr2
  clear hr2
  have HB := Aside0.mk (Below.refl w.heap.size w)

  go_enter Try.func10, Try.ntmps10
  go_wp2_with (first | ((with_reducible refine gate_dst (N := 3) rfl ?_); (try (refine gate_guard (by rfl) ?_; dsimp only)); refine box_event ?hg (N := 3) ?hd (cs := #[.int .i64 s0, .int .i64 s1, .int .i64 s2]) (t := 23) ?hr ?_; (case hd => rfl); (case hg => rfl); (case hr => first | (go_simp; done) | (go_simp; rfl)); intro g3 hg w3 hbox hb; have m0 := Aside0.mk (below_step (by repeat (first | (with_reducible first | exact HB.out | apply below_alloc | apply pw_below_drewN | apply below_drew1) | exact HB.out)) hb); have m1 := Aside0.mk hbox; have m2 := Aside0.mk ((by rw [hg]; exact (below_size (by repeat (first | (with_reducible first | exact HB.out | apply below_alloc | apply pw_below_drewN | apply below_drew1) | exact HB.out))) : w.heap.size ≤ g3)); clear HB ; have HB := m0; have S3 := m1; have G3 := m2; clear m0 m1 m2; clear hb hbox hg; have hs0 := blk_cell S3.out 0; have hs1 := blk_cell S3.out 1; have hs2 := blk_cell S3.out 2; have hfs0 := blk_frozen S3.out 0; simp only [List.getElem?_toArray, List.getElem?_cons_zero, List.getElem?_cons_succ] at hs0 hs1 hs2) | ((with_reducible refine gate_callee (f := 12) rfl ?_); refine goesL_ (some 12) rfl rfl Try.func12 (by kernel_rfl) rfl #[.agg #[.int .i64 s0, .int .i64 s1, .int .i64 s2]] rfl (by (try simp only [List.map_toArray, List.map_cons, List.map_nil]); first | done | rfl) ?_; (with_reducible refine (frame_Check.calls s0 s1 s2 1 _ hchk).mono ?_); rintro e w4 ⟨rfl, hb⟩; refine ⟨_, rfl, ?_⟩; have m0 := Aside0.mk (below_step (by repeat (first | (with_reducible first | exact HB.out | apply below_alloc | apply pw_below_drewN | apply below_drew1) | exact HB.out)) hb); have m1 := Aside0.mk (blk_below (g := g3) (o := (.cells #[.int .i64 s0, .int .i64 s1, .int .i64 s2] 23 (0, 0))) (by (with_reducible repeat (first | refine blk_drewN ?_ _ | refine blk_drew ?_ | refine blk_alloc ?_ _)); exact S3.out) hb); clear HB S3 hs0 hs1 hs2 hfs0 hb; have HB := m0; have S3 := m1; clear m0 m1; have hs0 := blk_cell S3.out 0; have hs1 := blk_cell S3.out 1; have hs2 := blk_cell S3.out 2; have hfs0 := blk_frozen S3.out 0; simp only [List.getElem?_toArray, List.getElem?_cons_zero, List.getElem?_cons_succ] at hs0 hs1 hs2))
  go_ret2
  exact ⟨rfl, by repeat (first | (with_reducible first | exact HB.out | apply below_alloc | apply pw_below_drewN | apply below_drew1) | exact HB.out)⟩

set_option maxHeartbeats 8000000 in
set_option maxRecDepth 100000 in
theorem fr_enc2 (s0 s1 s2 kind : Int) (A2 : Option Addr) (c2 : Nat) (l2 : List Int) (w : World) (hr2 : Kd.C (Kd.int .u8) w A2 l2.length l2) (hc2 : l2.length ≤ c2) (hchk : frame_Check.f s0 s1 s2 = some 0) (hkn : frame_known.f kind = some false) :
    Calls Try.prog 10 #[.agg #[.int .i64 s0, .int .i64 s1, .int .i64 s2], .int .i64 kind, .slice A2 l2.length c2] w fun e w' => e = .returned (.tuple #[.slice none 0 0, .int .i64 1]) ∧ Below w.heap.size w w' := by
  have hu23 := Try.underlying23
  have hu44 := Try.underlying44
  have HC := Aside0.mk hr2
  clear hr2
  have HB := Aside0.mk (Below.refl w.heap.size w)

  go_enter Try.func10, Try.ntmps10
  go_wp2_with (first | ((with_reducible refine gate_dst (N := 3) rfl ?_); (try (refine gate_guard (by rfl) ?_; dsimp only)); refine box_event ?hg (N := 3) ?hd (cs := #[.int .i64 s0, .int .i64 s1, .int .i64 s2]) (t := 23) ?hr ?_; (case hd => rfl); (case hg => rfl); (case hr => first | (go_simp; done) | (go_simp; rfl)); intro g3 hg w3 hbox hb; have m0 := Aside0.mk (below_step (by repeat (first | (with_reducible first | exact HB.out | apply below_alloc | apply pw_below_drewN | apply below_drew1) | exact HB.out)) hb); have m1 := Aside0.mk hbox; have m2 := Aside0.mk ((by rw [hg]; exact (below_size (by repeat (first | (with_reducible first | exact HB.out | apply below_alloc | apply pw_below_drewN | apply below_drew1) | exact HB.out))) : w.heap.size ≤ g3)); clear HB ; have HB := m0; have S3 := m1; have G3 := m2; clear m0 m1 m2; clear hb hbox hg; have hs0 := blk_cell S3.out 0; have hs1 := blk_cell S3.out 1; have hs2 := blk_cell S3.out 2; have hfs0 := blk_frozen S3.out 0; simp only [List.getElem?_toArray, List.getElem?_cons_zero, List.getElem?_cons_succ] at hs0 hs1 hs2) | ((with_reducible refine gate_callee (f := 12) rfl ?_); refine goesL_ (some 12) rfl rfl Try.func12 (by kernel_rfl) rfl #[.agg #[.int .i64 s0, .int .i64 s1, .int .i64 s2]] rfl (by (try simp only [List.map_toArray, List.map_cons, List.map_nil]); first | done | rfl) ?_; (with_reducible refine (frame_Check.calls s0 s1 s2 0 _ hchk).mono ?_); rintro e w4 ⟨rfl, hb⟩; refine ⟨_, rfl, ?_⟩; have m0 := Aside0.mk (below_step (by repeat (first | (with_reducible first | exact HB.out | apply below_alloc | apply pw_below_drewN | apply below_drew1) | exact HB.out)) hb); have m1 := Aside0.mk (blk_below (g := g3) (o := (.cells #[.int .i64 s0, .int .i64 s1, .int .i64 s2] 23 (0, 0))) (by (with_reducible repeat (first | refine blk_drewN ?_ _ | refine blk_drew ?_ | refine blk_alloc ?_ _)); exact S3.out) hb); clear HB S3 hs0 hs1 hs2 hfs0 hb; have HB := m0; have S3 := m1; clear m0 m1; have hs0 := blk_cell S3.out 0; have hs1 := blk_cell S3.out 1; have hs2 := blk_cell S3.out 2; have hfs0 := blk_frozen S3.out 0; simp only [List.getElem?_toArray, List.getElem?_cons_zero, List.getElem?_cons_succ] at hs0 hs1 hs2) | (go_at_call 19; (with_reducible refine (frame_known.calls kind false _ hkn).mono ?_); rintro e w5 ⟨rfl, hd⟩; obtain ⟨dn, rfl⟩ := hd))
  go_ret2
  exact ⟨rfl, by repeat (first | (with_reducible first | exact HB.out | apply below_alloc | apply pw_below_drewN | apply below_drew1) | exact HB.out)⟩

set_option maxHeartbeats 8000000 in
set_option maxRecDepth 100000 in
theorem fr_enc3 (s0 s1 s2 kind : Int) (A2 : Option Addr) (c2 : Nat) (l2 : List Int) (w : World) (hr2 : Kd.C (Kd.int .u8) w A2 l2.length l2) (hc2 : l2.length ≤ c2) (hchk : frame_Check.f s0 s1 s2 = some 0) (hkn : frame_known.f kind = some true) (hlen : 108 < l2.length) :
    Calls Try.prog 10 #[.agg #[.int .i64 s0, .int .i64 s1, .int .i64 s2], .int .i64 kind, .slice A2 l2.length c2] w fun e w' => e = .returned (.tuple #[.slice none 0 0, .int .i64 2]) ∧ Below w.heap.size w w' := by
  have hu23 := Try.underlying23
  have hu44 := Try.underlying44
  have HC := Aside0.mk hr2
  clear hr2
  have HB := Aside0.mk (Below.refl w.heap.size w)
  have hlen1 : decide (108 < (l2.length : Int)) = true := decide_eq_true (by omega)
  have hlen2 : decide (108 < l2.length) = true := decide_eq_true (by omega)
  go_enter Try.func10, Try.ntmps10
  go_wp2_with (first | ((with_reducible refine gate_dst (N := 3) rfl ?_); (try (refine gate_guard (by rfl) ?_; dsimp only)); refine box_event ?hg (N := 3) ?hd (cs := #[.int .i64 s0, .int .i64 s1, .int .i64 s2]) (t := 23) ?hr ?_; (case hd => rfl); (case hg => rfl); (case hr => first | (go_simp; done) | (go_simp; rfl)); intro g3 hg w3 hbox hb; have m0 := Aside0.mk (below_step (by repeat (first | (with_reducible first | exact HB.out | apply below_alloc | apply pw_below_drewN | apply below_drew1) | exact HB.out)) hb); have m1 := Aside0.mk hbox; have m2 := Aside0.mk ((by rw [hg]; exact (below_size (by repeat (first | (with_reducible first | exact HB.out | apply below_alloc | apply pw_below_drewN | apply below_drew1) | exact HB.out))) : w.heap.size ≤ g3)); clear HB ; have HB := m0; have S3 := m1; have G3 := m2; clear m0 m1 m2; clear hb hbox hg; have hs0 := blk_cell S3.out 0; have hs1 := blk_cell S3.out 1; have hs2 := blk_cell S3.out 2; have hfs0 := blk_frozen S3.out 0; simp only [List.getElem?_toArray, List.getElem?_cons_zero, List.getElem?_cons_succ] at hs0 hs1 hs2) | ((with_reducible refine gate_callee (f := 12) rfl ?_); refine goesL_ (some 12) rfl rfl Try.func12 (by kernel_rfl) rfl #[.agg #[.int .i64 s0, .int .i64 s1, .int .i64 s2]] rfl (by (try simp only [List.map_toArray, List.map_cons, List.map_nil]); first | done | rfl) ?_; (with_reducible refine (frame_Check.calls s0 s1 s2 0 _ hchk).mono ?_); rintro e w4 ⟨rfl, hb⟩; refine ⟨_, rfl, ?_⟩; have m0 := Aside0.mk (below_step (by repeat (first | (with_reducible first | exact HB.out | apply below_alloc | apply pw_below_drewN | apply below_drew1) | exact HB.out)) hb); have m1 := Aside0.mk (blk_below (g := g3) (o := (.cells #[.int .i64 s0, .int .i64 s1, .int .i64 s2] 23 (0, 0))) (by (with_reducible repeat (first | refine blk_drewN ?_ _ | refine blk_drew ?_ | refine blk_alloc ?_ _)); exact S3.out) hb); clear HB S3 hs0 hs1 hs2 hfs0 hb; have HB := m0; have S3 := m1; clear m0 m1; have hs0 := blk_cell S3.out 0; have hs1 := blk_cell S3.out 1; have hs2 := blk_cell S3.out 2; have hfs0 := blk_frozen S3.out 0; simp only [List.getElem?_toArray, List.getElem?_cons_zero, List.getElem?_cons_succ] at hs0 hs1 hs2) | (go_at_call 19; (with_reducible refine (frame_known.calls kind true _ hkn).mono ?_); rintro e w5 ⟨rfl, hd⟩; obtain ⟨dn, rfl⟩ := hd))
  go_ret2
  exact ⟨rfl, by repeat (first | (with_reducible first | exact HB.out | apply below_alloc | apply pw_below_drewN | apply below_drew1) | exact HB.out)⟩

set_option maxHeartbeats 8000000 in
set_option maxRecDepth 100000 in
theorem fr_enc4 (s0 s1 s2 kind : Int) (A2 : Option Addr) (c2 : Nat) (l2 : List Int) (w : World) (hr2 : Kd.C (Kd.int .u8) w A2 l2.length l2) (hc2 : l2.length ≤ c2) (n0 n1 n2 kd sm : Nat) (e0 : s0 = (n0 : Int)) (e1 : s1 = (n1 : Int)) (e2 : s2 = (n2 : Int)) (ek : kind = (kd : Int)) (k0 : n0 < 2147483648) (k1 : n1 < 2147483648) (k2 : n2 < 2147483648) (kk : kd < 5) (hchk : frame_Check.f s0 s1 s2 = some 0) (hkn : frame_known.f kind = some true) (hlen : l2.length ≤ 108) (hsm : sum_Of.f ((frHead n0 n1 n2 kd l2).take 124) = some (sm : Int)) (hsl : sm < 2 ^ 32) :
    Calls Try.prog 10 #[.agg #[.int .i64 s0, .int .i64 s1, .int .i64 s2], .int .i64 kind, .slice A2 l2.length c2] w fun e w' => ∃ v, e = .returned (.tuple #[v, .int .i64 0]) ∧ Kd.R (Kd.int .u8) 44 w' w.heap.size (fun _ => True) v (frPut 4 sm 124 (frHead n0 n1 n2 kd l2)) ∧ Below w.heap.size w w' := by
  have hu23 := Try.underlying23
  have hu44 := Try.underlying44
  have HC := Aside0.mk hr2
  clear hr2
  have HB := Aside0.mk (Below.refl w.heap.size w)
  have hlen1 : decide (108 < (l2.length : Int)) = false := decide_eq_false (by omega)
  have hlen2 : decide (108 < l2.length) = false := decide_eq_false (by omega)
  subst e0 e1 e2 ek
  have hw0 : IntKind.u32.wrap (n0 : Int) = (n0 : Int) := u32_wrap (by omega)
  have hw1 : IntKind.u32.wrap (n1 : Int) = (n1 : Int) := u32_wrap (by omega)
  have hw2 : IntKind.u32.wrap (n2 : Int) = (n2 : Int) := u32_wrap (by omega)
  have hwk : IntKind.u32.wrap (kd : Int) = (kd : Int) := u32_wrap (by omega)
  have hwl : IntKind.u32.wrap (l2.length : Int) = (l2.length : Int) := u32_wrap (by omega)
  go_enter Try.func10, Try.ntmps10
  go_wp2_with (first | ((with_reducible refine gate_dst (N := 3) rfl ?_); (try (refine gate_guard (by rfl) ?_; dsimp only)); refine box_event ?hg (N := 3) ?hd (cs := #[.int .i64 (n0 : Int), .int .i64 (n1 : Int), .int .i64 (n2 : Int)]) (t := 23) ?hr ?_; (case hd => rfl); (case hg => rfl); (case hr => first | (go_simp; done) | (go_simp; rfl)); intro g3 hg w3 hbox hb; have m0 := Aside0.mk (below_step (by repeat (first | (with_reducible first | exact HB.out | apply below_alloc | apply pw_below_drewN | apply below_drew1) | exact HB.out)) hb); have m1 := Aside0.mk hbox; have m2 := Aside0.mk ((by rw [hg]; exact (below_size (by repeat (first | (with_reducible first | exact HB.out | apply below_alloc | apply pw_below_drewN | apply below_drew1) | exact HB.out))) : w.heap.size ≤ g3)); clear HB ; have HB := m0; have S3 := m1; have G3 := m2; clear m0 m1 m2; clear hb hbox hg; have hs0 := blk_cell S3.out 0; have hs1 := blk_cell S3.out 1; have hs2 := blk_cell S3.out 2; have hfs0 := blk_frozen S3.out 0; simp only [List.getElem?_toArray, List.getElem?_cons_zero, List.getElem?_cons_succ] at hs0 hs1 hs2) | ((with_reducible refine gate_callee (f := 12) rfl ?_); refine goesL_ (some 12) rfl rfl Try.func12 (by kernel_rfl) rfl #[.agg #[.int .i64 (n0 : Int), .int .i64 (n1 : Int), .int .i64 (n2 : Int)]] rfl (by (try simp only [List.map_toArray, List.map_cons, List.map_nil]); first | done | rfl) ?_; (with_reducible refine (frame_Check.calls (n0 : Int) (n1 : Int) (n2 : Int) 0 _ hchk).mono ?_); rintro e w4 ⟨rfl, hb⟩; refine ⟨_, rfl, ?_⟩; have m0 := Aside0.mk (below_step (by repeat (first | (with_reducible first | exact HB.out | apply below_alloc | apply pw_below_drewN | apply below_drew1) | exact HB.out)) hb); have m1 := Aside0.mk (blk_below (g := g3) (o := (.cells #[.int .i64 (n0 : Int), .int .i64 (n1 : Int), .int .i64 (n2 : Int)] 23 (0, 0))) (by (with_reducible repeat (first | refine blk_drewN ?_ _ | refine blk_drew ?_ | refine blk_alloc ?_ _)); exact S3.out) hb); clear HB S3 hs0 hs1 hs2 hfs0 hb; have HB := m0; have S3 := m1; clear m0 m1; have hs0 := blk_cell S3.out 0; have hs1 := blk_cell S3.out 1; have hs2 := blk_cell S3.out 2; have hfs0 := blk_frozen S3.out 0; simp only [List.getElem?_toArray, List.getElem?_cons_zero, List.getElem?_cons_succ] at hs0 hs1 hs2) | (go_at_call 19; (with_reducible refine (frame_known.calls (kd : Int) true _ hkn).mono ?_); rintro e w5 ⟨rfl, hd⟩; obtain ⟨dn, rfl⟩ := hd) | ((with_reducible refine gate_dst (N := 8) rfl ?_); (try (refine gate_guard (by rfl) ?_; dsimp only)); refine box_event ?hg (N := 8) ?hd (cs := brow (List.replicate 128 0)) (t := 44) ?hr ?_; (case hd => rfl); (case hg => rfl); (case hr => first | (go_simp; done) | (go_simp; rfl)); intro g8 hg w8 hbox hb; have m0 := Aside0.mk (below_step (by repeat (first | (with_reducible first | exact HB.out | apply below_alloc | apply pw_below_drewN | apply below_drew1) | exact HB.out)) hb); have m1 := Aside0.mk hbox; have m2 := Aside0.mk ((by rw [hg]; exact (below_size (by repeat (first | (with_reducible first | exact HB.out | apply below_alloc | apply pw_below_drewN | apply below_drew1) | exact HB.out))) : w.heap.size ≤ g8)); have m3 := Aside0.mk (blk_below (g := g3) (o := (.cells #[.int .i64 (n0 : Int), .int .i64 (n1 : Int), .int .i64 (n2 : Int)] 23 (0, 0))) (by (with_reducible repeat (first | refine blk_drewN ?_ _ | refine blk_drew ?_ | refine blk_alloc ?_ _)); exact S3.out) hb); have m4 := Aside0.mk ((by rw [hg]; exact (blk_lt (g := g3) (o := (.cells #[.int .i64 (n0 : Int), .int .i64 (n1 : Int), .int .i64 (n2 : Int)] 23 (0, 0))) (by (with_reducible repeat (first | refine blk_drewN ?_ _ | refine blk_drew ?_ | refine blk_alloc ?_ _)); exact S3.out))) : g3 < g8); clear HB S3; have HB := m0; have B8 := m1; have G8 := m2; have S3 := m3; have Ng3g8 := m4; clear m0 m1 m2 m3 m4; clear hb hbox hg) | ((with_reducible refine gate_dst (N := 9) rfl ?_); (try (refine gate_guard (by rfl) ?_; dsimp only)); refine box_event ?hg (N := 9) ?hd (cs := #[.int .i64 0]) (t := 3) ?hr ?_; (case hd => rfl); (case hg => rfl); (case hr => first | (go_simp; done) | (go_simp; rfl)); intro g9 hg w9 hbox hb; have m0 := Aside0.mk (below_step (by repeat (first | (with_reducible first | exact HB.out | apply below_alloc | apply pw_below_drewN | apply below_drew1) | exact HB.out)) hb); have m1 := Aside0.mk hbox; have m2 := Aside0.mk ((by rw [hg]; exact (below_size (by repeat (first | (with_reducible first | exact HB.out | apply below_alloc | apply pw_below_drewN | apply below_drew1) | exact HB.out))) : w.heap.size ≤ g9)); have m3 := Aside0.mk (blk_below (g := g3) (o := (.cells #[.int .i64 (n0 : Int), .int .i64 (n1 : Int), .int .i64 (n2 : Int)] 23 (0, 0))) (by (with_reducible repeat (first | refine blk_drewN ?_ _ | refine blk_drew ?_ | refine blk_alloc ?_ _)); exact S3.out) hb); have m4 := Aside0.mk ((by rw [hg]; exact (blk_lt (g := g3) (o := (.cells #[.int .i64 (n0 : Int), .int .i64 (n1 : Int), .int .i64 (n2 : Int)] 23 (0, 0))) (by (with_reducible repeat (first | refine blk_drewN ?_ _ | refine blk_drew ?_ | refine blk_alloc ?_ _)); exact S3.out))) : g3 < g9); have m5 := Aside0.mk (blk_below (g := g8) (o := (.cells (brow (List.replicate 128 0)) 44 (0, 0))) (by (with_reducible repeat (first | refine blk_drewN ?_ _ | refine blk_drew ?_ | refine blk_alloc ?_ _)); exact B8.out) hb); have m6 := Aside0.mk ((by rw [hg]; exact (blk_lt (g := g8) (o := (.cells (brow (List.replicate 128 0)) 44 (0, 0))) (by (with_reducible repeat (first | refine blk_drewN ?_ _ | refine blk_drew ?_ | refine blk_alloc ?_ _)); exact B8.out))) : g8 < g9); clear HB S3 B8; have HB := m0; have A9 := m1; have G9 := m2; have S3 := m3; have Ng3g9 := m4; have B8 := m5; have Ng8g9 := m6; clear m0 m1 m2 m3 m4 m5 m6; clear hb hbox hg; have hc9 := blk_cell A9.out 0; have hf9 := blk_frozen A9.out 0; simp only [List.getElem?_toArray, List.getElem?_cons_zero, List.getElem?_cons_succ] at hc9))
  have m0 := Aside0.mk (blk_put (cs' := #[.int .i64 0]) A9.out 0 (.int .i64 0) rfl)
  have m1 := Aside0.mk (blk_far (p := ⟨g9, 0, none⟩) B8.out (Nat.ne_of_lt Ng8g9.out) (.int .i64 0))
  have m2 := Aside0.mk (blk_far (p := ⟨g9, 0, none⟩) S3.out (Nat.ne_of_lt Ng3g9.out) (.int .i64 0))
  have m3 := Aside0.mk (below_set (j := 0) (v := .int .i64 0) HB.out G9.out)
  clear HB S3 B8 A9 hc9 hf9 hs0 hs1 hs2 hfs0
  have A9 := m0
  have B8 := m1
  have S3 := m2
  have HB := m3
  clear m0 m1 m2 m3
  obtain ⟨L0, hL0⟩ : ∃ q, List.replicate 128 (0 : Int) = q := ⟨_, rfl⟩
  rw [hL0] at B8
  have HL0 := Aside0.mk (show L0.length = 128 by rw [← hL0, List.length_replicate])
  have EL0 := Aside0.mk hL0
  clear hL0
  generalize w9.setCell ⟨g9, 0, none⟩ (.int .i64 0) = wa at A9 B8 S3 HB ⊢
  refine (fr_put g8 g9 (76) 1 0 L0 _ (by (with_reducible repeat (first | refine blk_drewN ?_ _ | refine blk_drew ?_ | refine blk_alloc ?_ _)); exact B8.out) (by (with_reducible repeat (first | refine blk_drewN ?_ _ | refine blk_drew ?_ | refine blk_alloc ?_ _)); exact A9.out) (by omega) HL0.out (by omega)).mono ?_
  rintro e wp0 ⟨rfl, hb8, ha9, hW⟩
  have m0 := Aside0.mk (Below.trans (show Below w.heap.size w _ from by repeat (first | (with_reducible first | exact HB.out | apply below_alloc | apply pw_below_drewN | apply below_drew1) | exact HB.out)) (hW _ G8.out G9.out))
  have m1 := Aside0.mk (((hW (g3 + 1) Ng3g8.out Ng3g9.out).block g3 (Nat.lt_succ_self _)).trans (by (with_reducible repeat (first | refine blk_drewN ?_ _ | refine blk_drew ?_ | refine blk_alloc ?_ _)); exact S3.out))
  have m3 := Aside0.mk (show wp0.heap[g9]? = some (.cells #[.int .i64 1] 3 (0, 0)) from ha9)
  obtain ⟨L1, hL⟩ : ∃ q, frPut 1 (76) 0 L0 = q := ⟨_, rfl⟩
  rw [hL] at hb8
  have m2 := Aside0.mk hb8
  have HL1 := Aside0.mk (show L1.length = 128 by rw [← hL, frPut_len]; exact HL0.out)
  have EL1 := Aside0.mk hL
  clear HB S3 B8 A9 hb8 ha9 hW hL HL0
  have HB := m0
  have S3 := m1
  have B8 := m2
  have A9 := m3
  clear m0 m1 m2 m3
  have hs0 := blk_cell S3.out 0
  have hs1 := blk_cell S3.out 1
  have hs2 := blk_cell S3.out 2
  simp only [List.getElem?_toArray, List.getElem?_cons_zero, List.getElem?_cons_succ] at hs0 hs1 hs2
  dsimp only
  go_wp2_with (fail)
  clear hs0 hs1 hs2
  refine (fr_put g8 g9 (kd) 1 1 L1 _ (by (with_reducible repeat (first | refine blk_drewN ?_ _ | refine blk_drew ?_ | refine blk_alloc ?_ _)); exact B8.out) (by (with_reducible repeat (first | refine blk_drewN ?_ _ | refine blk_drew ?_ | refine blk_alloc ?_ _)); exact A9.out) (by omega) HL1.out (by omega)).mono ?_
  rintro e wp1 ⟨rfl, hb8, ha9, hW⟩
  have m0 := Aside0.mk (Below.trans (show Below w.heap.size w _ from by repeat (first | (with_reducible first | exact HB.out | apply below_alloc | apply pw_below_drewN | apply below_drew1) | exact HB.out)) (hW _ G8.out G9.out))
  have m1 := Aside0.mk (((hW (g3 + 1) Ng3g8.out Ng3g9.out).block g3 (Nat.lt_succ_self _)).trans (by (with_reducible repeat (first | refine blk_drewN ?_ _ | refine blk_drew ?_ | refine blk_alloc ?_ _)); exact S3.out))
  have m3 := Aside0.mk (show wp1.heap[g9]? = some (.cells #[.int .i64 2] 3 (0, 0)) from ha9)
  obtain ⟨L2, hL⟩ : ∃ q, frPut 1 (kd) 1 L1 = q := ⟨_, rfl⟩
  rw [hL] at hb8
  have m2 := Aside0.mk hb8
  have HL2 := Aside0.mk (show L2.length = 128 by rw [← hL, frPut_len]; exact HL1.out)
  have EL2 := Aside0.mk hL
  clear HB S3 B8 A9 hb8 ha9 hW hL HL1
  have HB := m0
  have S3 := m1
  have B8 := m2
  have A9 := m3
  clear m0 m1 m2 m3
  have hs0 := blk_cell S3.out 0
  have hs1 := blk_cell S3.out 1
  have hs2 := blk_cell S3.out 2
  simp only [List.getElem?_toArray, List.getElem?_cons_zero, List.getElem?_cons_succ] at hs0 hs1 hs2
  dsimp only
  go_wp2_with (fail)
  clear hs0 hs1 hs2
  refine (fr_put g8 g9 (l2.length) 2 2 L2 _ (by (with_reducible repeat (first | refine blk_drewN ?_ _ | refine blk_drew ?_ | refine blk_alloc ?_ _)); exact B8.out) (by (with_reducible repeat (first | refine blk_drewN ?_ _ | refine blk_drew ?_ | refine blk_alloc ?_ _)); exact A9.out) (by omega) HL2.out (by omega)).mono ?_
  rintro e wp2 ⟨rfl, hb8, ha9, hW⟩
  have m0 := Aside0.mk (Below.trans (show Below w.heap.size w _ from by repeat (first | (with_reducible first | exact HB.out | apply below_alloc | apply pw_below_drewN | apply below_drew1) | exact HB.out)) (hW _ G8.out G9.out))
  have m1 := Aside0.mk (((hW (g3 + 1) Ng3g8.out Ng3g9.out).block g3 (Nat.lt_succ_self _)).trans (by (with_reducible repeat (first | refine blk_drewN ?_ _ | refine blk_drew ?_ | refine blk_alloc ?_ _)); exact S3.out))
  have m3 := Aside0.mk (show wp2.heap[g9]? = some (.cells #[.int .i64 4] 3 (0, 0)) from ha9)
  obtain ⟨L3, hL⟩ : ∃ q, frPut 2 (l2.length) 2 L2 = q := ⟨_, rfl⟩
  rw [hL] at hb8
  have m2 := Aside0.mk hb8
  have HL3 := Aside0.mk (show L3.length = 128 by rw [← hL, frPut_len]; exact HL2.out)
  have EL3 := Aside0.mk hL
  clear HB S3 B8 A9 hb8 ha9 hW hL HL2
  have HB := m0
  have S3 := m1
  have B8 := m2
  have A9 := m3
  clear m0 m1 m2 m3
  have hs0 := blk_cell S3.out 0
  have hs1 := blk_cell S3.out 1
  have hs2 := blk_cell S3.out 2
  simp only [List.getElem?_toArray, List.getElem?_cons_zero, List.getElem?_cons_succ] at hs0 hs1 hs2
  dsimp only
  go_wp2_with (fail)
  clear hs0 hs1 hs2
  refine (fr_put g8 g9 (n0) 4 4 L3 _ (by (with_reducible repeat (first | refine blk_drewN ?_ _ | refine blk_drew ?_ | refine blk_alloc ?_ _)); exact B8.out) (by (with_reducible repeat (first | refine blk_drewN ?_ _ | refine blk_drew ?_ | refine blk_alloc ?_ _)); exact A9.out) (by omega) HL3.out (by omega)).mono ?_
  rintro e wp3 ⟨rfl, hb8, ha9, hW⟩
  have m0 := Aside0.mk (Below.trans (show Below w.heap.size w _ from by repeat (first | (with_reducible first | exact HB.out | apply below_alloc | apply pw_below_drewN | apply below_drew1) | exact HB.out)) (hW _ G8.out G9.out))
  have m1 := Aside0.mk (((hW (g3 + 1) Ng3g8.out Ng3g9.out).block g3 (Nat.lt_succ_self _)).trans (by (with_reducible repeat (first | refine blk_drewN ?_ _ | refine blk_drew ?_ | refine blk_alloc ?_ _)); exact S3.out))
  have m3 := Aside0.mk (show wp3.heap[g9]? = some (.cells #[.int .i64 8] 3 (0, 0)) from ha9)
  obtain ⟨L4, hL⟩ : ∃ q, frPut 4 (n0) 4 L3 = q := ⟨_, rfl⟩
  rw [hL] at hb8
  have m2 := Aside0.mk hb8
  have HL4 := Aside0.mk (show L4.length = 128 by rw [← hL, frPut_len]; exact HL3.out)
  have EL4 := Aside0.mk hL
  clear HB S3 B8 A9 hb8 ha9 hW hL HL3
  have HB := m0
  have S3 := m1
  have B8 := m2
  have A9 := m3
  clear m0 m1 m2 m3
  have hs0 := blk_cell S3.out 0
  have hs1 := blk_cell S3.out 1
  have hs2 := blk_cell S3.out 2
  simp only [List.getElem?_toArray, List.getElem?_cons_zero, List.getElem?_cons_succ] at hs0 hs1 hs2
  dsimp only
  go_wp2_with (fail)
  clear hs0 hs1 hs2
  refine (fr_put g8 g9 (n1) 4 8 L4 _ (by (with_reducible repeat (first | refine blk_drewN ?_ _ | refine blk_drew ?_ | refine blk_alloc ?_ _)); exact B8.out) (by (with_reducible repeat (first | refine blk_drewN ?_ _ | refine blk_drew ?_ | refine blk_alloc ?_ _)); exact A9.out) (by omega) HL4.out (by omega)).mono ?_
  rintro e wp4 ⟨rfl, hb8, ha9, hW⟩
  have m0 := Aside0.mk (Below.trans (show Below w.heap.size w _ from by repeat (first | (with_reducible first | exact HB.out | apply below_alloc | apply pw_below_drewN | apply below_drew1) | exact HB.out)) (hW _ G8.out G9.out))
  have m1 := Aside0.mk (((hW (g3 + 1) Ng3g8.out Ng3g9.out).block g3 (Nat.lt_succ_self _)).trans (by (with_reducible repeat (first | refine blk_drewN ?_ _ | refine blk_drew ?_ | refine blk_alloc ?_ _)); exact S3.out))
  have m3 := Aside0.mk (show wp4.heap[g9]? = some (.cells #[.int .i64 12] 3 (0, 0)) from ha9)
  obtain ⟨L5, hL⟩ : ∃ q, frPut 4 (n1) 8 L4 = q := ⟨_, rfl⟩
  rw [hL] at hb8
  have m2 := Aside0.mk hb8
  have HL5 := Aside0.mk (show L5.length = 128 by rw [← hL, frPut_len]; exact HL4.out)
  have EL5 := Aside0.mk hL
  clear HB S3 B8 A9 hb8 ha9 hW hL HL4
  have HB := m0
  have S3 := m1
  have B8 := m2
  have A9 := m3
  clear m0 m1 m2 m3
  have hs0 := blk_cell S3.out 0
  have hs1 := blk_cell S3.out 1
  have hs2 := blk_cell S3.out 2
  simp only [List.getElem?_toArray, List.getElem?_cons_zero, List.getElem?_cons_succ] at hs0 hs1 hs2
  dsimp only
  go_wp2_with (fail)
  clear hs0 hs1 hs2
  refine (fr_put g8 g9 (n2) 4 12 L5 _ (by (with_reducible repeat (first | refine blk_drewN ?_ _ | refine blk_drew ?_ | refine blk_alloc ?_ _)); exact B8.out) (by (with_reducible repeat (first | refine blk_drewN ?_ _ | refine blk_drew ?_ | refine blk_alloc ?_ _)); exact A9.out) (by omega) HL5.out (by omega)).mono ?_
  rintro e wp5 ⟨rfl, hb8, ha9, hW⟩
  have m0 := Aside0.mk (Below.trans (show Below w.heap.size w _ from by repeat (first | (with_reducible first | exact HB.out | apply below_alloc | apply pw_below_drewN | apply below_drew1) | exact HB.out)) (hW _ G8.out G9.out))
  have m1 := Aside0.mk (((hW (g3 + 1) Ng3g8.out Ng3g9.out).block g3 (Nat.lt_succ_self _)).trans (by (with_reducible repeat (first | refine blk_drewN ?_ _ | refine blk_drew ?_ | refine blk_alloc ?_ _)); exact S3.out))
  have m3 := Aside0.mk (show wp5.heap[g9]? = some (.cells #[.int .i64 16] 3 (0, 0)) from ha9)
  obtain ⟨L6, hL⟩ : ∃ q, frPut 4 (n2) 12 L5 = q := ⟨_, rfl⟩
  rw [hL] at hb8
  have m2 := Aside0.mk hb8
  have HL6 := Aside0.mk (show L6.length = 128 by rw [← hL, frPut_len]; exact HL5.out)
  have EL6 := Aside0.mk hL
  clear HB S3 B8 A9 hb8 ha9 hW hL HL5
  have HB := m0
  have S3 := m1
  have B8 := m2
  have A9 := m3
  clear m0 m1 m2 m3
  have hs0 := blk_cell S3.out 0
  have hs1 := blk_cell S3.out 1
  have hs2 := blk_cell S3.out 2
  simp only [List.getElem?_toArray, List.getElem?_cons_zero, List.getElem?_cons_succ] at hs0 hs1 hs2
  dsimp only
  have hc9 := blk_cell A9.out 0
  have hf9 := blk_frozen A9.out 0
  simp only [List.getElem?_toArray, List.getElem?_cons_zero, List.getElem?_cons_succ] at hc9
  obtain ⟨L7, hL7⟩ : ∃ q, splice L6 16 l2 = q := ⟨_, rfl⟩
  have hH : frHead n0 n1 n2 kd l2 = L7 := by unfold frHead; rw [EL0.out, EL1.out, EL2.out, EL3.out, EL4.out, EL5.out, EL6.out, hL7]
  have HL7 := Aside0.mk (show L7.length = 128 by rw [← hH]; exact frHead_len n0 n1 n2 kd l2 hlen)
  rw [hH] at hsm
  have HH := Aside0.mk hH
  have HSM := Aside0.mk hsm
  have E7 := Aside0.mk hL7
  clear hsm hL7 hH EL0 EL1 EL2 EL3 EL4 EL5 EL6 hs0 hs1 hs2
  go_wp2_with (first | ((with_reducible refine gate_dst (N := 52) rfl ?_); refine fr_copy rfl (.tmp 50) (.tmp 51) 24 24 rfl 5 Try.underlying24 (by kernel_rfl) _ _ _ _ _ _ rfl rfl g8 16 L6 l2 44 B8.out (show l2.length = Nat.min l2.length 112 from (Nat.min_eq_left (by omega)).symm) rfl (Kd.C_below HC.out (by repeat (first | (with_reducible first | exact HB.out | apply below_alloc | apply pw_below_drewN | apply below_drew1) | exact HB.out))) (by have h9 := HL6.out; omega) ?_; intro wc hb8 hoth hW; have m0 := Aside0.mk (Below.trans (show Below w.heap.size w _ from by repeat (first | (with_reducible first | exact HB.out | apply below_alloc | apply pw_below_drewN | apply below_drew1) | exact HB.out)) (hW _ G8.out)); have m3 := Aside0.mk ((hoth g9 (Nat.ne_of_gt Ng8g9.out)).trans A9.out); rw [E7.out] at hb8; have m2 := Aside0.mk hb8; clear HB S3 B8 A9 hb8 hoth hW hc9 hf9; have HB := m0; have B8 := m2; have A9 := m3; clear m0 m2 m3; have hc9 := blk_cell A9.out 0; have hf9 := blk_frozen A9.out 0; simp only [List.getElem?_toArray, List.getElem?_cons_zero, List.getElem?_cons_succ] at hc9) | ((with_reducible refine gate_callee (f := 21) rfl ?_); refine goesL_ (some 55) rfl rfl Try.func21 (by kernel_rfl) rfl #[.slice (some ⟨g8, 0, none⟩) 124 128] rfl (by (try simp only [List.map_toArray, List.map_cons, List.map_nil]); first | done | rfl) ?_; (with_reducible refine (fr_of g8 L7 HL7.out (sm : Int) HSM.out _ 44 (by exact blk_far B8.out (Nat.ne_of_lt Ng8g9.out) _)).mono ?_); rintro e wd ⟨rfl, hb⟩; refine ⟨_, rfl, ?_⟩; have m0 := Aside0.mk (below_step (by repeat (first | (with_reducible first | exact HB.out | apply below_alloc | apply pw_below_drewN | apply below_drew1 | refine below_set ?_ G9.out) | exact HB.out)) hb); have m2 := Aside0.mk (blk_below (blk_far (p := ⟨g9, 0, none⟩) B8.out (Nat.ne_of_lt Ng8g9.out) _) hb); have m3 := Aside0.mk (blk_below (blk_put (cs' := #[.int .i64 124]) A9.out 0 (.int .i64 124) rfl) hb); clear HB B8 A9 hb hc9 hf9; have HB := m0; have B8 := m2; have A9 := m3; clear m0 m2 m3))
  refine (fr_put g8 g9 sm 4 124 L7 _ (by (with_reducible repeat (first | refine blk_drewN ?_ _ | refine blk_drew ?_ | refine blk_alloc ?_ _)); exact B8.out) (by (with_reducible repeat (first | refine blk_drewN ?_ _ | refine blk_drew ?_ | refine blk_alloc ?_ _)); exact A9.out) (by omega) HL7.out (by omega)).mono ?_
  rintro e wz ⟨rfl, hb8, ha9, hW⟩
  have m0 := Aside0.mk (Below.trans (show Below w.heap.size w _ from by repeat (first | (with_reducible first | exact HB.out | apply below_alloc | apply pw_below_drewN | apply below_drew1) | exact HB.out)) (hW _ G8.out G9.out))
  have m2 := Aside0.mk hb8
  clear HB B8 A9 hb8 ha9 hW
  have HB := m0
  have B8 := m2
  clear m0 m2
  dsimp only
  go_wp2
  go_ret2
  refine ⟨_, rfl, ?_, HB.out⟩
  rw [HH.out]
  exact R_brow B8.out G8.out (by rw [frPut_len]; exact HL7.out)

def frame_Encode.f (a0_0 a0_1 a0_2 a1 : Int) (l2 : List Int) : Option (List Int × Int) :=
  (frame_Check.f a0_0 a0_1 a0_2).bind fun c => if c = 0 then (frame_known.f a1).bind fun q => if q = true then (if 108 < l2.length then some ([], 2) else (sum_Of.f ((frHead a0_0.toNat a0_1.toNat a0_2.toNat a1.toNat l2).take 124)).bind fun s => if u32ok s = true then some (frPut 4 s.toNat 124 (frHead a0_0.toNat a0_1.toNat a0_2.toNat a1.toNat l2), 0) else none) else some ([], 1) else some ([], 1)
theorem fits_of {x : Int} {r : Bool} (h : frame_fits.f x = some r) : r = decide (0 ≤ x ∧ x ≤ 2147483647) := by
  unfold frame_fits.f at h
  split at h
  · have e := Option.some.inj h
    rw [← e]
    simp only [decide_eq_decide]
    omega
  · have e := Option.some.inj h
    rw [← e]
    symm
    rw [decide_eq_false_iff_not]
    omega
theorem check_of {x y z : Int} {r : Int} (h : frame_Check.f x y z = some r) : r = 0 ∧ 0 ≤ x ∧ x ≤ 2147483647 ∧ 0 ≤ y ∧ y ≤ 2147483647 ∧ 0 ≤ z ∧ z ≤ 2147483647 ∨ r = 1 := by
  unfold frame_Check.f at h
  obtain ⟨q, hq, h⟩ := Option.bind_eq_some_iff.mp h
  have e1 := fits_of hq
  cases q with
  | false => exact .inr (Option.some.inj h).symm
  | true =>
    rw [if_pos rfl] at h
    obtain ⟨q2, hq2, h⟩ := Option.bind_eq_some_iff.mp h
    have e2 := fits_of hq2
    cases q2 with
    | false => exact .inr (Option.some.inj h).symm
    | true =>
      rw [if_pos rfl] at h
      obtain ⟨q3, hq3, h⟩ := Option.bind_eq_some_iff.mp h
      have e3 := fits_of hq3
      cases q3 with
      | false => exact .inr (Option.some.inj h).symm
      | true =>
        have e := Option.some.inj h
        have f1 := of_decide_eq_true e1.symm
        have f2 := of_decide_eq_true e2.symm
        have f3 := of_decide_eq_true e3.symm
        exact .inl ⟨e.symm, f1.1, f1.2, f2.1, f2.2, f3.1, f3.2⟩
theorem known_of {x : Int} {r : Bool} (h : frame_known.f x = some r) : r = decide (1 ≤ x ∧ x ≤ 4) := by
  unfold frame_known.f at h
  split at h
  · have e := Option.some.inj h
    rw [← e]
    simp only [decide_eq_decide]
    omega
  · have e := Option.some.inj h
    rw [← e]
    symm
    rw [decide_eq_false_iff_not]
    omega
theorem frame_Encode.calls (a0_0 a0_1 a0_2 a1 : Int) (A2 : Option Addr) (c2 : Nat) (l2 : List Int) (r1 : List Int) (r2 : Int) (w : World) (hr2 : Kd.C (Kd.int .u8) w A2 l2.length l2) (hc2 : l2.length ≤ c2) (h : frame_Encode.f a0_0 a0_1 a0_2 a1 l2 = some (r1, r2)) :
    Calls Try.prog 10 #[.agg #[.int .i64 a0_0, .int .i64 a0_1, .int .i64 a0_2], .int .i64 a1, .slice A2 l2.length c2] w fun e w' => ∃ v0_ : Value, e = .returned (.tuple #[v0_, .int .i64 r2]) ∧ Kd.R (Kd.int .u8) 44 w' w.heap.size (fun _ => True) v0_ r1 ∧ Below w.heap.size w w' := by
  unfold frame_Encode.f at h
  obtain ⟨c, hc, h⟩ := Option.bind_eq_some_iff.mp h
  have bad : ∀ r, (r1 = [] ∧ r2 = r) → (Calls Try.prog 10 #[.agg #[.int .i64 a0_0, .int .i64 a0_1, .int .i64 a0_2], .int .i64 a1, .slice A2 l2.length c2] w fun e w' => e = .returned (.tuple #[.slice none 0 0, .int .i64 r]) ∧ Below w.heap.size w w') → Calls Try.prog 10 #[.agg #[.int .i64 a0_0, .int .i64 a0_1, .int .i64 a0_2], .int .i64 a1, .slice A2 l2.length c2] w fun e w' => ∃ v0_ : Value, e = .returned (.tuple #[v0_, .int .i64 r2]) ∧ Kd.R (Kd.int .u8) 44 w' w.heap.size (fun _ => True) v0_ r1 ∧ Below w.heap.size w w' := by
    rintro r ⟨rfl, rfl⟩ hcl
    refine hcl.mono ?_
    rintro e w' ⟨rfl, hb⟩
    exact ⟨_, rfl, Kd.R_nil _ _ _ _ _, hb⟩
  have two : ∀ {x : List Int} {y : Int}, some (x, y) = some (r1, r2) → r1 = x ∧ r2 = y := fun h => by
    have e := Option.some.inj h
    rw [Prod.mk.injEq] at e
    exact ⟨e.1.symm, e.2.symm⟩
  rcases check_of hc with ⟨rfl, hb⟩ | rfl
  · rw [if_pos rfl] at h
    obtain ⟨q, hq, h⟩ := Option.bind_eq_some_iff.mp h
    cases q with
    | false => exact bad 1 (two h) (fr_enc2 a0_0 a0_1 a0_2 a1 A2 c2 l2 w hr2 hc2 hc hq)
    | true =>
      rw [if_pos rfl] at h
      split at h
      · rename_i hl
        exact bad 2 (two h) (fr_enc3 a0_0 a0_1 a0_2 a1 A2 c2 l2 w hr2 hc2 hc hq hl)
      · rename_i hl
        have hk := of_decide_eq_true (known_of hq).symm
        have key := fun (sm : Nat) => fr_enc4 a0_0 a0_1 a0_2 a1 A2 c2 l2 w hr2 hc2 a0_0.toNat a0_1.toNat a0_2.toNat a1.toNat sm (by omega) (by omega) (by omega) (by omega) (by omega) (by omega) (by omega) (by omega) hc hq (by omega)
        generalize frHead a0_0.toNat a0_1.toNat a0_2.toNat a1.toNat l2 = H at h key
        obtain ⟨s, hs, h⟩ := Option.bind_eq_some_iff.mp h
        by_cases hu : u32ok s = true
        · rw [if_pos hu] at h
          obtain ⟨sm, rfl, hsl⟩ := u32ok_nat hu
          obtain ⟨e1, e2⟩ := two h
          subst e1
          subst e2
          rw [Int.toNat_natCast]
          exact key sm hs hsl
        · rw [if_neg hu] at h
          cases h
  · rw [if_neg (by decide)] at h
    exact bad 1 (two h) (fr_enc1 a0_0 a0_1 a0_2 a1 A2 c2 l2 w hr2 hc2 hc)

end Go.Proofs.Ytljknhjmaafmkaa.PFrameSpoilt
