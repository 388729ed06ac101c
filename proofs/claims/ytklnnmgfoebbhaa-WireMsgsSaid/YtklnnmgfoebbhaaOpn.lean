/- Written for the rows of laws over structs, texts and slices of these: what a parameter reads as, opened along the kinds of the print's words. It holds for every program; nothing is assumed but what each lemma names. -/
import Derived.SizedLaws
import Derived.ChangeSlices
import Derived.ChangeArms
import Derived.Carry
import Derived.Test.YtklnnmgfoebbhaaWWords
set_option linter.unusedVariables false
namespace Go.Proofs.Ytklnnmgfoebbhaa.Opn
open Go.ChangeShapes Go.WideShapes Go.Proofs.YtklnnmgfoebbhaaW.PrintWords

def Opn {α : Type} (P : Program) (k : Kd α) (t : TypeId) (Ok : α → Prop) : Prop :=
  ∀ {H : Type} {enc : TypeId × Value → H} {W : World} {fuel : Nat} {cs : List Value} {x : DataW H × List MemPlace},
    DataW.trod enc P W 0 (fun _ => true) true fuel t cs = some x → (∀ n ∈ x.1.weights P t, n ≤ reachBytes) → ∃ a, k.K W a cs ∧ Ok a

theorem Opn.int {P : Program} {t : TypeId} {ik : IntKind} (ht : P.underlying t = some (.int ik)) : Opn P (Kd.int ik) t (fun a => (Lit.int ik a).wf = true) := by
  intro H enc W fuel cs x h _
  obtain ⟨n, rfl, _, hw⟩ := DataW.trod_int ht h
  exact ⟨n, rfl, hw⟩
theorem Opn.bool {P : Program} {t : TypeId} (ht : P.underlying t = some .bool) : Opn P Kd.bool t (fun _ => True) := by
  intro H enc W fuel cs x h _
  obtain ⟨b, rfl, _⟩ := DataW.trod_bool ht h
  exact ⟨b, rfl, trivial⟩
theorem Opn.string {P : Program} {t : TypeId} (ht : P.underlying t = some .string) : Opn P Kd.string t (fun s => s.size ≤ 140737488351232) := by
  intro H enc W fuel cs x h hw
  obtain ⟨s, rfl, rfl, _⟩ := DataW.trod_string ht h
  refine ⟨s, rfl, ?_⟩
  have := hw s.data.toList.length (by simp [DataW.weights])
  rw [Array.length_toList] at this
  exact this
theorem mem_all {H : Type} {P : Program} {e : TypeId} : ∀ {l : List (DataW H)} {d : DataW H}, d ∈ l → ∀ n ∈ d.weights P e, n ∈ DataW.weightsAll P e l
  | d0 :: l, d, h, n, hn => by
    simp only [DataW.weightsAll, List.mem_append]
    rcases List.mem_cons.mp h with rfl | h
    · exact .inl hn
    · exact .inr (mem_all h n hn)
theorem Opn.slice {α : Type} {P : Program} {k : Kd α} {t e B : Nat} {Ok : α → Prop} (ht : P.underlying t = some (.slice e)) (hc : P.cellsOf e = k.sz) (hB : P.bytesOf e = B) (ho : Opn P k e Ok) :
    Opn P (Kd.slice e k) t (fun l => l.length * B ≤ 140737488351232 ∧ l.length ≤ maxLen ∧ ∀ a ∈ l, Ok a) := by
  intro H enc W fuel cs x h hw
  rcases DataW.trod_slice ht h with ⟨rfl, rfl⟩ | ⟨a, len, cap, elems, rest, n, _, rfl, rfl, _, hl, hm, hlen, hel, _, _⟩
  · exact ⟨[], ⟨none, 0, rfl, Nat.le_refl _, rfl, by simp, fun h => absurd h (Nat.lt_irrefl 0)⟩, by simp, by simp, fun _ h => by cases h⟩
  · have hwe : ∀ d ∈ elems.map (·.1), ∀ n ∈ d.weights P e, n ≤ reachBytes := fun d hd n hn => hw n (by
      simp only [DataW.weights, ht, List.mem_cons, List.mem_append]
      exact .inr (.inl (mem_all hd n hn)))
    have each : ∀ i, i < len → ∃ a' : α, Ok a' ∧ ∃ c, c.length = k.sz ∧ k.K W a' c ∧ ∀ j u, c[j]? = some u → W.cell? (a.add (i * k.sz + j)) = some u := by
      intro i hi
      have he := hel i hi
      have hsome : elems[i]? = some (elems[i]'(by omega)) := List.getElem?_eq_getElem (by omega)
      rw [hsome, Option.bind_eq_some_iff] at he
      obtain ⟨c, hcs, htr⟩ := he
      obtain ⟨a', hK, hOk⟩ := ho htr (fun n hn => hwe _ (List.mem_map_of_mem (List.getElem_mem _)) n hn)
      have hcl := k.K_len hK
      refine ⟨a', hOk, c, hcl, hK, fun j u hu => ?_⟩
      unfold World.cells? at hcs
      split at hcs
      · have hj : j < P.cellsOf e := by
          rw [hc, ← hcl]
          exact (List.getElem?_eq_some_iff.1 hu).1
        have hg := mapM_some_get hcs j j (by rw [List.getElem?_range hj])
        rw [← hc, ← add_add]
        exact hg.trans hu
      · cases hcs
    have hall : ∀ m, m ≤ len → ∃ l : List α, l.length = m ∧ (∀ b ∈ l, Ok b) ∧ ∀ i p, l[i]? = some p → ∃ c, c.length = k.sz ∧ k.K W p c ∧ ∀ j u, c[j]? = some u → W.cell? (a.add (i * k.sz + j)) = some u := by
      intro m
      induction m with
      | zero => intro _; exact ⟨[], rfl, (fun _ h => by cases h), (fun i p h => by simp at h)⟩
      | succ m ih =>
        intro hm'
        obtain ⟨l, hl1, hl2, hl3⟩ := ih (by omega)
        obtain ⟨b, hb, hb2⟩ := each m (by omega)
        refine ⟨l ++ [b], by simp [hl1], fun x hx => ?_, fun i p hp => ?_⟩
        · rcases List.mem_append.mp hx with hx | hx
          · exact hl2 x hx
          · rw [List.mem_singleton.mp hx]; exact hb
        · by_cases hi : i < m
          · rw [List.getElem?_append_left (by omega)] at hp
            exact hl3 i p hp
          · rw [List.getElem?_append_right (by omega)] at hp
            have : i - l.length = 0 := by
              have := (List.getElem?_eq_some_iff.1 hp).1
              simp at this; omega
            rw [this] at hp
            simp at hp
            subst hp
            have : i = m := by omega
            subst this
            exact hb2
    obtain ⟨l, hl1, hl2, hl3⟩ := hall len (Nat.le_refl _)
    have hbound : (elems.length + rest.length) * B ≤ reachBytes := hw _ (by simp [DataW.weights, ht, hB])
    refine ⟨l, ⟨some a, cap, by rw [hl1], by omega, ?_⟩, ?_, ?_, hl2⟩
    · unfold Kd.C ReadsRow
      refine ⟨rfl, by unfold maxLen at hm; omega, fun _ => ⟨a, rfl, hl3⟩⟩
    · rw [hl1, ← hlen]
      exact Nat.le_trans (Nat.mul_le_mul_right _ (Nat.le_add_right _ _)) hbound
    · omega

def OpnF {β : Type} (P : Program) (k : Kd β) (fs : List Field) (off : Nat) (Ok : β → Prop) : Prop :=
  ∀ {H : Type} {enc : TypeId × Value → H} {W : World} {n : Nat} {cs : List Value} {xs : List (DataW H × List MemPlace)},
    (∀ (i : Nat) (f : Field), fs[i]? = some f → DataW.trod enc P W 0 (fun _ => true) true n f.type ((cs.drop f.offset).take (P.cellsOf f.type)) = xs[i]?) → xs.length = fs.length → cs.length = off + k.sz →
    (∀ m ∈ DataW.weightsEach P (fs.map (·.type)) (xs.map (·.1)), m ≤ reachBytes) → ∃ b, k.K W b (cs.drop off) ∧ Ok b
theorem OpnF.one {α : Type} {P : Program} {k : Kd α} {f : Field} {off : Nat} {Ok : α → Prop} (h1 : f.offset = off) (h2 : P.cellsOf f.type = k.sz) (ho : Opn P k f.type Ok) : OpnF P k [f] off Ok := by
  intro H enc W n cs xs hx hl hcs hw
  obtain ⟨y, rfl⟩ : ∃ y, xs = [y] := by
    match xs, hl with
    | [y], _ => exact ⟨y, rfl⟩
  have := hx 0 f rfl
  rw [h1, h2, List.take_of_length_le (by rw [List.length_drop]; omega)] at this
  exact ho this (fun m hm => hw m (by simpa [DataW.weightsEach] using hm))
theorem OpnF.cons {α β : Type} {P : Program} {a : Kd α} {b : Kd β} {f : Field} {fs : List Field} {off : Nat} {Oa : α → Prop} {Ob : β → Prop} (h1 : f.offset = off) (h2 : P.cellsOf f.type = a.sz) (ho : Opn P a f.type Oa) (hr : OpnF P b fs (off + a.sz) Ob) :
    OpnF P (Kd.pair a b) (f :: fs) off (fun x => Oa x.1 ∧ Ob x.2) := by
  intro H enc W n cs xs hx hl hcs hw
  obtain ⟨y, ys, rfl⟩ : ∃ y ys, xs = y :: ys := by
    match xs, hl with
    | y :: ys, _ => exact ⟨y, ys, rfl⟩
  have hc2 : cs.length = off + (a.sz + b.sz) := hcs
  have h0 := hx 0 f rfl
  rw [h1, h2] at h0
  obtain ⟨va, ka, oa⟩ := ho h0 (fun m hm => hw m (by simp only [List.map_cons, DataW.weightsEach, List.mem_append]; exact .inl hm))
  obtain ⟨vb, kb, ob⟩ := hr (fun i g hg => hx (i + 1) g hg) (by simpa using hl) (by omega) (fun m hm => hw m (by simp only [List.map_cons, DataW.weightsEach, List.mem_append]; exact .inr hm))
  refine ⟨(va, vb), ⟨_, _, ?_, ka, kb⟩, oa, ob⟩
  rw [← List.drop_drop, List.take_append_drop]
theorem Opn.struct {β : Type} {P : Program} {k : Kd β} {t : TypeId} {fs : Array Field} {Ok : β → Prop} (ht : P.underlying t = some (.struct fs)) (hc : P.cellsOf t = k.sz) (ho : OpnF P k fs.toList 0 Ok) : Opn P k t Ok := by
  intro H enc W fuel cs x h hw
  obtain ⟨xs, n, _, rfl, hl, hlen, hf⟩ := DataW.trod_struct ht h
  exact ho (fun i f hi => hf i f (by simpa using hi)) (by simpa using hlen) (by omega) (fun m hm => hw m (by simpa [DataW.weights, ht] using hm))
theorem Opn.iso {α β : Type} {P : Program} {k : Kd α} {t : TypeId} {Ok : α → Prop} (g : β → α) (g' : α → β) (hg : ∀ x, g (g' x) = x) (h : Opn P k t Ok) : Opn P (Kd.iso k g) t (fun x => Ok (g x)) := by
  intro H enc W fuel cs x hx hw
  obtain ⟨a, ka, oa⟩ := h hx hw
  exact ⟨g' a, by show k.K W (g (g' a)) cs; rw [hg]; exact ka, by show Ok (g (g' a)); rw [hg]; exact oa⟩
/-- A parameter's datum is of the weight that the row lets in. -/
theorem weight_at {H : Type} {P : Program} {ts : List TypeId} {ds : List (DataW H)} (h : (DataW.weightsEach P ts ds).all (· ≤ reachBytes) = true) {j : Nat} {t : TypeId} {d : DataW H} (ht : ts[j]? = some t) (hd : ds[j]? = some d) :
    ∀ n ∈ d.weights P t, n ≤ reachBytes := fun n hn => by simpa using List.all_eq_true.1 h n (DataW.weights_mem_each ht hd n hn)
theorem open_slice {α : Type} {P : Program} {k : Kd α} {t e : TypeId} {Ok : List α → Prop} (ho : Opn P (Kd.slice e k) t Ok) {H : Type} {enc : TypeId × Value → H} {W : World} {a : Option Addr} {len cap : Nat} {d : DataW H} {p : List MemPlace}
    (h : DataW.Trod enc P W 0 (fun _ => true) true t (.slice a len cap) d p) (hw : ∀ n ∈ d.weights P t, n ≤ reachBytes) : ∃ l : List α, len = l.length ∧ l.length ≤ cap ∧ k.C W a l.length l ∧ Ok l := by
  obtain ⟨fuel, hf⟩ := h
  obtain ⟨l, ⟨A, c, e1, h2, h3⟩, h4⟩ := ho hf hw
  simp [Value.cells] at e1
  obtain ⟨rfl, rfl, rfl⟩ := e1
  exact ⟨l, rfl, h2, h3, h4⟩
theorem open_struct {α : Type} {P : Program} {k : Kd α} {t : TypeId} {Ok : α → Prop} (ho : Opn P k t Ok) {H : Type} {enc : TypeId × Value → H} {W : World} {cs : Array Value} {d : DataW H} {p : List MemPlace}
    (h : DataW.Trod enc P W 0 (fun _ => true) true t (.agg cs) d p) (hw : ∀ n ∈ d.weights P t, n ≤ reachBytes) : ∃ x : α, k.K W x cs.toList ∧ Ok x := by
  obtain ⟨fuel, hf⟩ := h
  exact ho hf hw
end Go.Proofs.Ytklnnmgfoebbhaa.Opn
