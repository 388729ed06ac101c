/- Written for the statement CodeBehind over the program's printed functions: numbers and lists alone. -/
import Derived.Test.YtlehgphnjpgjnaaPCodeBehindx
set_option linter.unusedVariables false
set_option linter.unusedSimpArgs false
namespace Go.Proofs.Ytlehgphnjpgjnaa.Pure
open Go.RowKit Go.Proofs.Ytlehgphnjpgjnaa.PCodeBehind Go.Proofs.YtlehgphnjpgjnaaW Go.Proofs.YtlehgphnjpgjnaaW.PrintWords Go.Proofs.YtlehgphnjpgjnaaW.PrintLast Go.Proofs.YtlehgphnjpgjnaaW.PrintMore

theorem wrap64_id {x : Int} (h0 : -9223372036854775808 ≤ x) (h1 : x ≤ 9223372036854775807) : wrap64 x = x := by unfold wrap64; omega
theorem wu64 (n : Int) : IntKind.u64.wrap n = n % 18446744073709551616 := by simp [IntKind.wrap, IntKind.bits, IntKind.signed]
theorem wraps_u64 (n : Int) (h0 : 0 ≤ n) (h1 : n < 2 ^ 64) : IntKind.u64.wrap n = n := by rw [wu64]; omega
theorem u64_and127 {x : Int} (h0 : 0 ≤ x) (h1 : x < 18446744073709551616) : Go.bits .and .u64 x 127 = x % 128 := Go.bits_mask .u64 64 (by decide) wraps_u64 7 (by decide) x h0 h1
theorem u8_and127 {x : Int} (h0 : 0 ≤ x) (h1 : x < 256) : Go.bits .and .u8 x 127 = x % 128 := Go.bits_mask .u8 8 (by decide) Go.wraps_u8 7 (by decide) x h0 h1
theorem bits_comm_or (k : IntKind) (x y : Int) : Go.bits .or k x y = Go.bits .or k y x := by simp [Go.bits, BitVec.or_comm]
theorem u8_or_128 {x : Int} (h0 : 0 ≤ x) (h1 : x < 128) : Go.bits .or .u8 x 128 = x + 128 := by
  rw [bits_comm_or, Go.bits_join .u8 8 (by decide) Go.wraps_u8 7 128 x (by decide) (by decide) (by decide) h0 h1 (by omega)]; omega
theorem u64_join (i : Nat) {x y : Int} (hx0 : 0 ≤ x) (hx : x % 2 ^ i = 0) (hx1 : x < 18446744073709551616) (hy0 : 0 ≤ y) (hy : y < 2 ^ i) (hy1 : y < 18446744073709551616) : Go.bits .or .u64 x y = x + y :=
  Go.bits_join .u64 64 (by decide) wraps_u64 i x y hx0 hx hx1 hy0 hy hy1
theorem wf_u64 {x : Int} (h : (Lit.int .u64 x).wf = true) : 0 ≤ x ∧ x < 18446744073709551616 := by
  simp [Lit.wf, IntKind.min, IntKind.max, IntKind.bits, IntKind.signed] at h; omega
theorem wf_u8 {x : Int} (h : (Lit.int .u8 x).wf = true) : 0 ≤ x ∧ x < 256 := by
  simp [Lit.wf, IntKind.min, IntKind.max, IntKind.bits, IntKind.signed] at h; omega
theorem wf_i64 {x : Int} (h : (Lit.int .i64 x).wf = true) : -9223372036854775808 ≤ x ∧ x ≤ 9223372036854775807 := by
  simp [Lit.wf, IntKind.min, IntKind.max, IntKind.bits, IntKind.signed] at h; omega
def Byt (l : List Int) : Prop := ∀ x ∈ l, 0 ≤ x ∧ x < 256
theorem Byt.of_wf {l : List Int} (h : ∀ x ∈ l, (Lit.int .u8 x).wf = true) : Byt l := fun x hx => wf_u8 (h x hx)
theorem Byt.rd {l : List Int} (h : Byt l) (i : Int) : 0 ≤ rd l i ∧ rd l i < 256 := by
  unfold PrintWords.rd
  rw [List.getD_eq_getElem?_getD]
  cases e : l[i.toNat]? with
  | none => simp
  | some x => exact h x (List.mem_of_getElem? e)
theorem Byt.take {l : List Int} (h : Byt l) (n : Nat) : Byt (l.take n) := fun x hx => h x (List.mem_of_mem_take hx)
theorem Byt.drop {l : List Int} (h : Byt l) (n : Nat) : Byt (l.drop n) := fun x hx => h x (List.mem_of_mem_drop hx)
theorem rd_nat (l : List Int) (i : Nat) : rd l (i : Int) = l.getD i 0 := by unfold PrintWords.rd; simp
theorem rd_drop {l : List Int} {i : Nat} (h : i < l.length) : l.drop i = rd l (i : Int) :: l.drop (i + 1) := by
  rw [rd_nat, List.drop_eq_getElem_cons h]; simp [List.getD_eq_getElem?_getD, List.getElem?_eq_getElem h]

theorem bl_eq (s : ByteArray) : s.toList = s.data.toList := ByteArray.toList_eq s
theorem ba_ext {a b : ByteArray} (h : a.toList = b.toList) : a = b := by
  rw [bl_eq, bl_eq] at h
  exact ByteArray.ext (Array.toList_inj.mp h)
theorem bl_len (s : ByteArray) : s.toList.length = s.size := by rw [bl_eq, Array.length_toList]; rfl
theorem bl_append (a b : ByteArray) : (a ++ b).toList = a.toList ++ b.toList := by rw [bl_eq, bl_eq, bl_eq, ByteArray.data_append, Array.toList_append]
theorem bl_extract (a : ByteArray) (i j : Nat) : (a.extract i j).toList = (a.toList.take j).drop i := by
  rw [bl_eq, bl_eq, ByteArray.data_extract, Array.toList_extract, List.extract_eq_take_drop, List.drop_take]
theorem bl_nums (xs : List Int) : (strOfNums xs).toList = xs.map fun n => UInt8.ofNat n.toNat := by rw [bl_eq]; rfl
theorem bt_nat (s : ByteArray) (i : Nat) (h : i < s.size) : bt s (i : Int) = ((s.toList[i]'(by rw [bl_len]; exact h)).toNat : Int) := by
  unfold PrintWords.bt
  rw [dif_pos (by simpa using h)]
  simp only [Int.toNat_natCast, bl_eq]
  rfl
theorem bl_bytesOf (s : ByteArray) : bytesOf s = s.toList.map fun b => (b.toNat : Int) := by unfold PrintWords.bytesOf; rw [bl_eq]
theorem less_app (p x y : List UInt8) : Op.bytesLess (p ++ x) (p ++ y) = Op.bytesLess x y := by
  induction p with
  | nil => rfl
  | cons c t ih => simp [Op.bytesLess, ih, UInt8.lt_irrefl]
theorem less_next {c d : UInt8} (h : c.toNat < d.toNat) (x y : List UInt8) : Op.bytesLess (c :: x) (d :: y) = true := by
  simp only [Op.bytesLess]
  rw [decide_eq_true (UInt8.lt_iff_toNat_lt.mpr h)]
  rfl

def wB (s : ByteArray) (n : Nat) : ByteArray := if n = 0 then ⟨#[]⟩ else s.extract 0 (n - 1) ++ strOfNums [(bt s ((n - 1 : Nat) : Int) + 1) % 256]
theorem trim_last (s : ByteArray) : ∀ m, 0 < trim255 s m → bt s ((trim255 s m - 1 : Nat) : Int) ≠ 255
  | 0, h => by simp [trim255] at h
  | m + 1, h => by
    unfold trim255 at h ⊢
    split
    · rename_i hc
      rw [if_pos hc] at h
      exact trim_last s m h
    · rename_i hc
      simpa using hc
theorem code_Behind_l0 (s : ByteArray) (hs : s.size ≤ 140737488351232) (m : Nat) : ∀ k, m ≤ s.size → m + 1 ≤ k → code_Behind.l0 k s (m : Int) = some (wB s (trim255 s m)) := by
  induction m with
  | zero =>
    intro k hm hk
    obtain ⟨k, rfl⟩ : ∃ m, k = m + 1 := ⟨k - 1, by omega⟩
    simp only [code_Behind.l0]
    rw [if_neg (by omega), if_pos (by omega)]; rfl
  | succ m ih =>
    intro k hm hk
    obtain ⟨k, rfl⟩ : ∃ m, k = m + 1 := ⟨k - 1, by omega⟩
    simp only [code_Behind.l0]
    have hw : wrap64 (((m + 1 : Nat) : Int) - 1) = (m : Int) := by rw [wrap64_id (by omega) (by omega)]; omega
    rw [hw, if_pos (show ((m + 1 : Nat) : Int) > 0 by omega), if_pos (show (0 : Int) ≤ (m : Int) by omega), if_pos (show (m : Int) < (s.size : Int) by omega)]
    by_cases c : bt s (m : Int) = 255
    · rw [if_pos c, trim255, if_pos c]
      exact ih k (by omega) (by omega)
    · rw [if_neg c, if_neg (show ¬ ((m + 1 : Nat) : Int) = 0 by omega), if_pos (show (m : Int) ≤ (s.size : Int) by omega), Option.bind_some, Int.toNat_natCast]
      have e : (strOfNums [(bt s (m : Int) + 1) % 256]).size = 1 := by rw [strOfNums_size]; rfl
      rw [if_pos (by rw [e]; omega), trim255, if_neg c, wB, if_neg (by omega)]
      rfl
theorem code_Behind_ev (s : ByteArray) (hs : s.size ≤ 140737488351232) : Ev (fun k => code_Behind.f k s) (wB s (trim255 s s.size)) := ⟨s.size + 1, fun k hk => code_Behind_l0 s hs s.size k (Nat.le_refl _) hk⟩
theorem map_back (l : List UInt8) : l.map ((fun n : Int => UInt8.ofNat n.toNat) ∘ fun b : UInt8 => (b.toNat : Int)) = l := by
  conv => rhs; rw [← List.map_id l]
  apply List.map_congr_left
  intro b _
  simp
theorem ref_wB (s : ByteArray) (n : Nat) (hn : n ≤ s.size) : refBehind s n = wB s n := by
  unfold refBehind wB
  split
  · rfl
  · rename_i h0
    apply ba_ext
    obtain ⟨m, rfl⟩ : ∃ m, n = m + 1 := ⟨n - 1, by omega⟩
    have hm : m < s.size := by omega
    rw [bl_append, bl_extract, bl_nums, bl_nums, bl_bytesOf, bl_extract]
    simp only [Nat.add_sub_cancel, List.drop_zero]
    have hl : m < s.toList.length := by rw [bl_len]; exact hm
    rw [List.take_succ_eq_append_getElem hl, List.map_append]
    have hlen : (List.map (fun b : UInt8 => (b.toNat : Int)) (s.toList.take m)).length = m := by rw [List.length_map, List.length_take]; omega
    have hr : rd (List.map (fun b : UInt8 => (b.toNat : Int)) (s.toList.take m) ++ List.map (fun b : UInt8 => (b.toNat : Int)) [s.toList[m]]) (m : Int) = bt s (m : Int) := by
      rw [rd_nat, List.getD_eq_getElem?_getD, List.getElem?_append_right (by omega), bt_nat s m hm, hlen]; simp
    rw [hr, List.set_append_right _ _ (by omega), hlen, List.map_append, List.map_map, map_back]
    simp

theorem awake02 : Ev (fun k => lienlaw02_awake.f k) true := Ev.of (fun k => lienlaw02_awake.mono k) (k := 20) (by kernel_rfl)

theorem short_some (s : ByteArray) (h : s.size ≤ 140737488351232) : ∃ u, lienlaw02_short.f s = some u ∧ u.size ≤ 140737488351232 := by
  unfold lienlaw02_short.f
  split
  · rw [if_pos (by omega), if_pos (by omega)]
    exact ⟨_, rfl, by rw [ByteArray.size_extract]; omega⟩
  · exact ⟨s, rfl, h⟩
theorem begins_val (s key : ByteArray) : lienref02_Begins.f s key = some (decide (key.size ≤ s.size ∧ s.toList.take key.size = key.toList)) := by
  unfold lienref02_Begins.f
  by_cases h : key.size ≤ s.size
  · rw [if_pos (by omega), if_pos (by omega), if_pos (by omega), Int.toNat_natCast, bl_extract, List.drop_zero]
    congr 1
    rw [Bool.eq_iff_iff]
    simp [h]
  · rw [if_neg (by omega)]
    congr 1
    rw [decide_eq_false (by omega)]
theorem CodeBehind : lienlaw02_CodeBehind.Pure := by
  intro key0 s0 h0 h1
  obtain ⟨key, hkey, hk⟩ := short_some key0 h0
  obtain ⟨s, hs, hsl⟩ := short_some s0 h1
  refine Ev.rounds ?_
  unfold lienlaw02_CodeBehind.f
  refine Ev.bind (g := fun _ => lienlaw02_short.f key0) (a := key) (hkey ▸ Ev.now key) ?_
  refine Ev.bind (g := fun _ => lienlaw02_short.f s0) (a := s) (hs ▸ Ev.now s) ?_
  refine Ev.bind (code_Behind_ev key hk) ?_
  have hle := trim255_le key key.size
  have hR : lienref02_Behind.f key = some (wB key (trim255 key key.size)) := by
    unfold lienref02_Behind.f
    rw [if_pos hk, ref_wB key _ hle]
  have hlast := trim_last key key.size
  generalize trim255 key key.size = n at *
  refine Ev.bind (g := fun _ => lienref02_Behind.f key) (a := wB key n) (hR ▸ Ev.now _) ?_
  simp only [if_true]
  refine Ev.bind awake02 ?_
  refine Ev.step (f := fun _ => some true) (fun k => ?_) (Ev.now true)
  simp only [lienlaw02_CodeBehind.j0, Bool.not_true]
  rw [if_neg (by decide), if_pos (by omega), hR, Option.bind_some]
  by_cases hn : n = 0
  · subst hn
    have e : (wB key 0).toList = [] := by rw [wB, if_pos rfl, bl_eq]
    rw [if_pos e, e]; rfl
  · obtain ⟨m, rfl⟩ : ∃ m, n = m + 1 := ⟨n - 1, by omega⟩
    have hm : m < key.toList.length := by rw [bl_len]; omega
    have hb := hlast (by omega)
    rw [Nat.add_sub_cancel, bt_nat key m (by omega)] at hb
    have hw : (wB key (m + 1)).toList = key.toList.take m ++ [UInt8.ofNat (((key.toList[m]).toNat + 1))] := by
      rw [wB, if_neg (by omega), bl_append, bl_extract, bl_nums, Nat.add_sub_cancel, bt_nat key m (by omega)]
      have := (key.toList[m]).toNat_lt
      rw [List.drop_zero, List.map_cons, List.map_nil, show ((((key.toList[m]).toNat : Int) + 1) % 256).toNat = (key.toList[m]).toNat + 1 by omega]
    have hkeyl : key.toList = key.toList.take m ++ key.toList[m] :: key.toList.drop (m + 1) := by
      conv => lhs; rw [← List.take_append_drop m key.toList, List.drop_eq_getElem_cons hm]
    have hnext : (key.toList[m]).toNat < (UInt8.ofNat ((key.toList[m]).toNat + 1)).toNat := by
      have := (key.toList[m]).toNat_lt
      rw [UInt8.toNat_ofNat']
      omega
    have hless : ∀ r, Op.bytesLess (key.toList ++ r) (wB key (m + 1)).toList = true := by
      intro r
      have e : key.toList ++ r = key.toList.take m ++ (key.toList[m] :: (key.toList.drop (m + 1) ++ r)) := by
        have e1 : key.toList ++ r = (key.toList.take m ++ key.toList[m] :: key.toList.drop (m + 1)) ++ r := by rw [← hkeyl]
        rw [e1, List.append_assoc]; rfl
      rw [e, hw, less_app]
      exact less_next hnext _ _
    have hne : ¬ (wB key (m + 1)).toList = [] := by rw [hw]; simp
    rw [if_neg hne, bl_append, if_pos (hless _)]
    by_cases c : Op.bytesLess s.toList (wB key (m + 1)).toList = true
    · rw [if_pos c]; rfl
    · rw [if_neg c, begins_val, Option.bind_some]
      have : ¬ (key.size ≤ s.size ∧ s.toList.take key.size = key.toList) := by
        rintro ⟨_, h2⟩
        have h3 := hless (s.toList.drop key.size)
        rw [← h2, List.take_append_drop] at h3
        exact c h3
      rw [decide_eq_false this]; rfl

end Go.Proofs.Ytlehgphnjpgjnaa.Pure
