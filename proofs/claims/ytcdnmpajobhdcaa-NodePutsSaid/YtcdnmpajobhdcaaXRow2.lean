/- Rows that come in, read at any kind, with what is told of each element's datum (sizes of texts in structs). -/
import Derived.Test.YtcdnmpajobhdcaaXRow
import Derived.SizedLaws
namespace Go.Proofs.Ytcdnmpajobhdcaa.XRow
open Go.RowKit Go.ChangeShapes Go.WideShapes Go.Proofs.YtcdnmpajobhdcaaW.PrintWords
set_option linter.unusedVariables false
set_option linter.unusedSimpArgs false
theorem weightsAll_mem {H : Type} {P : Program} {e : TypeId} : ∀ {l : List (DataW H)} {i : Nat} {d : DataW H}, l[i]? = some d → ∀ m ∈ d.weights P e, m ∈ DataW.weightsAll P e l
  | d0 :: l, 0, d, h, m, hm => by
    simp only [List.getElem?_cons_zero, Option.some.injEq] at h
    subst h
    simp only [DataW.weightsAll, List.mem_append]
    exact Or.inl hm
  | d0 :: l, i + 1, d, h, m, hm => by
    simp only [List.getElem?_cons_succ] at h
    simp only [DataW.weightsAll, List.mem_append]
    exact Or.inr (weightsAll_mem h m hm)
  | [], _, _, h, _, _ => by simp at h
/-- a slice, read: its elements are read by he, with what Q tells of an element and its datum -/
theorem slice_openQ {α H : Type} {enc : TypeId × Value → H} {P : Program} {w : World} {base : Nat} {spare : Nat → Bool} {held : Bool} {t e : TypeId} {d : Kd α} (z : α) (Q : α → DataW H → Prop)
    (ht : P.underlying t = some (.slice e)) (hc : P.cellsOf e = d.sz)
    (he : ∀ fuel cs y, DataW.trod enc P w base spare held fuel e cs = some y → ∃ x, d.K w x cs ∧ Q x y.1)
    {fuel : Nat} {cs : List Value} {y : DataW H × List MemPlace} (h : DataW.trod enc P w base spare held fuel t cs = some y) :
    ∃ A n c l, cs = [.slice A n c] ∧ l.length = n ∧ n ≤ c ∧ d.C w A n l ∧ ∀ i, i < n → ∃ dd, Q (l.getD i z) dd ∧ ∀ m ∈ dd.weights P e, m ∈ y.1.weights P t := by
  rcases DataW.trod_slice ht h with ⟨rfl, _⟩ | ⟨a, len, cap, elems, rest, m, _, rfl, rfl, _, hl, hm, hlen, hel, _, _⟩
  · exact ⟨none, 0, 0, [], rfl, rfl, Nat.le_refl _, ⟨rfl, by omega, fun h => absurd h (by omega)⟩, fun i hi => absurd hi (by omega)⟩
  · have each : ∀ i, ∃ x : α, i < len → (∃ c : List Value, c.length = d.sz ∧ d.K w x c ∧ ∀ j u, c[j]? = some u → w.cell? (a.add (i * d.sz + j)) = some u) ∧ ∃ dd, Q x dd ∧ (elems.map (·.1))[i]? = some dd := by
      intro i
      by_cases hi : i < len
      · have h1 := hel i hi
        have hi' : i < elems.length := by omega
        rw [hc, List.getElem?_eq_getElem hi', Option.bind_eq_some_iff] at h1
        obtain ⟨cs, hcs, ht⟩ := h1
        obtain ⟨x, hx, hq⟩ := he _ _ _ ht
        refine ⟨x, fun _ => ⟨⟨cs, d.K_len hx, hx, fun j u hu => ?_⟩, _, hq, by rw [List.getElem?_map, List.getElem?_eq_getElem hi']; rfl⟩⟩
        have hj : j < cs.length := (List.getElem?_eq_some_iff.mp hu).1
        have h3 := (World.cells?_some hcs).2.2 j (by have := d.K_len hx; omega)
        rw [add_add, h3, hu]
      · exact ⟨z, fun h => absurd h hi⟩
    obtain ⟨f, hf⟩ := Classical.axiomOfChoice each
    refine ⟨some a, len, cap, (List.range len).map f, rfl, by simp, hl, ⟨by simp, by simp only [maxLen] at hm; omega, fun hn => ⟨a, rfl, fun j p hp => ?_⟩⟩, fun i hi => ?_⟩
    · have hjn : j < len := by
        have := (List.getElem?_eq_some_iff.mp hp).1
        simpa using this
      have hp2 : p = f j := by
        simp [hjn] at hp
        exact hp.symm
      subst hp2
      exact (hf j hjn).1
    · obtain ⟨dd, hq, hdd⟩ := (hf i hi).2
      refine ⟨dd, ?_, fun n hn => ?_⟩
      · have e1 : ((List.range len).map f).getD i z = f i := by simp [List.getD_eq_getElem?_getD, hi]
        rw [e1]; exact hq
      · simp only [DataW.weights, ht, List.mem_cons, List.mem_append]
        exact .inr (.inl (weightsAll_mem hdd n hn))
theorem rows_openQ {α H : Type} {enc : TypeId × Value → H} {P : Program} {w : World} {base : Nat} {spare : Nat → Bool} {held : Bool} {t e : TypeId} {d : Kd α} (z : α) (Q : α → DataW H → Prop)
    (ht : P.underlying t = some (.slice e)) (hc : P.cellsOf e = d.sz)
    (he : ∀ fuel cs y, DataW.trod enc P w base spare held fuel e cs = some y → ∃ x, d.K w x cs ∧ Q x y.1)
    {A : Option Addr} {n c : Nat} {D : DataW H} {ps : List MemPlace} (h : DataW.Trod enc P w base spare held t (.slice A n c) D ps) :
    ∃ l : List α, l.length = n ∧ n ≤ c ∧ d.C w A n l ∧ ∀ i, i < n → ∃ dd, Q (l.getD i z) dd ∧ ∀ m ∈ dd.weights P e, m ∈ D.weights P t := by
  obtain ⟨fuel, hf⟩ := h
  obtain ⟨A', n', c', l, h1, h2, h3, h4, h5⟩ := slice_openQ z Q ht hc he hf
  simp [Value.cells] at h1
  obtain ⟨rfl, rfl, rfl⟩ := h1
  exact ⟨l, h2, h3, h4, h5⟩
end Go.Proofs.Ytcdnmpajobhdcaa.XRow
