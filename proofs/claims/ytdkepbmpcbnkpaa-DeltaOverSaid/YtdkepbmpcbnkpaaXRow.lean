/- Rows that come in, read at any kind: slices of what one can read. -/
import Derived.Test.YtdkepbmpcbnkpaaWMore
import Derived.SliceStrings
import Derived.ChangeShapes
namespace Go.Proofs.Ytdkepbmpcbnkpaa.XRow
open Go.RowKit Go.ChangeShapes Go.WideShapes Go.Proofs.YtdkepbmpcbnkpaaW.PrintWords
set_option linter.unusedVariables false
set_option linter.unusedSimpArgs false
theorem add_add (a : Addr) (i j : Nat) : a.add (i + j) = (a.add i).add j := by
  unfold Addr.add
  by_cases h1 : i = 0 <;> by_cases h2 : j = 0 <;> simp [h1, h2, Nat.add_assoc]
/-- a slice, read: its elements are read by he -/
theorem slice_open {α H : Type} {enc : TypeId × Value → H} {P : Program} {w : World} {base : Nat} {spare : Nat → Bool} {held : Bool} {t e : TypeId} {d : Kd α} (z : α)
    (ht : P.underlying t = some (.slice e)) (hc : P.cellsOf e = d.sz)
    (he : ∀ fuel cs y, DataW.trod enc P w base spare held fuel e cs = some y → ∃ x, d.K w x cs)
    {fuel : Nat} {cs : List Value} {y : DataW H × List MemPlace} (h : DataW.trod enc P w base spare held fuel t cs = some y) :
    ∃ A n c l, cs = [.slice A n c] ∧ l.length = n ∧ n ≤ c ∧ d.C w A n l := by
  rcases DataW.trod_slice ht h with ⟨rfl, _⟩ | ⟨a, len, cap, elems, rest, m, _, rfl, _, _, hl, hm, hlen, hel, _, _⟩
  · exact ⟨none, 0, 0, [], rfl, rfl, Nat.le_refl _, rfl, by omega, fun h => absurd h (by omega)⟩
  · have each : ∀ i, ∃ x : α, i < len → ∃ c : List Value, c.length = d.sz ∧ d.K w x c ∧ ∀ j u, c[j]? = some u → w.cell? (a.add (i * d.sz + j)) = some u := by
      intro i
      by_cases hi : i < len
      · have h1 := hel i hi
        rw [hc, List.getElem?_eq_getElem (by omega), Option.bind_eq_some_iff] at h1
        obtain ⟨cs, hcs, ht⟩ := h1
        obtain ⟨x, hx⟩ := he _ _ _ ht
        refine ⟨x, fun _ => ⟨cs, d.K_len hx, hx, fun j u hu => ?_⟩⟩
        have hj : j < cs.length := (List.getElem?_eq_some_iff.mp hu).1
        have h3 := (World.cells?_some hcs).2.2 j (by have := d.K_len hx; omega)
        rw [add_add, h3, hu]
      · exact ⟨z, fun h => absurd h hi⟩
    obtain ⟨f, hf⟩ := Classical.axiomOfChoice each
    refine ⟨some a, len, cap, (List.range len).map f, rfl, by simp, hl, by simp, by simp only [maxLen] at hm; omega, fun hn => ⟨a, rfl, fun j p hp => ?_⟩⟩
    have hjn : j < len := by
      have := (List.getElem?_eq_some_iff.mp hp).1
      simpa using this
    have hp2 : p = f j := by
      simp [hjn] at hp
      exact hp.symm
    subst hp2
    exact hf j hjn
theorem rows_open {α H : Type} {enc : TypeId × Value → H} {P : Program} {w : World} {base : Nat} {spare : Nat → Bool} {held : Bool} {t e : TypeId} {d : Kd α} (z : α)
    (ht : P.underlying t = some (.slice e)) (hc : P.cellsOf e = d.sz)
    (he : ∀ fuel cs y, DataW.trod enc P w base spare held fuel e cs = some y → ∃ x, d.K w x cs)
    {A : Option Addr} {n c : Nat} {D : DataW H} {ps : List MemPlace} (h : DataW.Trod enc P w base spare held t (.slice A n c) D ps) : ∃ l : List α, l.length = n ∧ n ≤ c ∧ d.C w A n l := by
  obtain ⟨fuel, hf⟩ := h
  obtain ⟨A', n', c', l, h1, h2, h3, h4⟩ := slice_open z ht hc he hf
  simp [Value.cells] at h1
  obtain ⟨rfl, rfl, rfl⟩ := h1
  exact ⟨l, h2, h3, h4⟩
/-- a slice of slices -/
theorem slice_K {α H : Type} {enc : TypeId × Value → H} {P : Program} {w : World} {base : Nat} {spare : Nat → Bool} {held : Bool} {t e : TypeId} {d : Kd α} (z : α)
    (ht : P.underlying t = some (.slice e)) (hc : P.cellsOf e = d.sz)
    (he : ∀ fuel cs y, DataW.trod enc P w base spare held fuel e cs = some y → ∃ x, d.K w x cs) :
    ∀ fuel cs y, DataW.trod enc P w base spare held fuel t cs = some y → ∃ x, (Kd.slice e d).K w x cs := by
  intro fuel cs y h
  obtain ⟨A, n, c, l, rfl, rfl, h3, h4⟩ := slice_open z ht hc he h
  exact ⟨l, A, c, rfl, h3, h4⟩
theorem int_K {H : Type} {enc : TypeId × Value → H} {P : Program} {w : World} {base : Nat} {spare : Nat → Bool} {held : Bool} {t : TypeId} {k : IntKind} (ht : P.underlying t = some (.int k)) :
    ∀ fuel cs y, DataW.trod enc P w base spare held fuel t cs = some y → ∃ x, (Kd.int k).K w x cs := by
  intro fuel cs y h
  obtain ⟨x, e, _, _⟩ := DataW.trod_int ht h
  exact ⟨x, e⟩
theorem string_K {H : Type} {enc : TypeId × Value → H} {P : Program} {w : World} {base : Nat} {spare : Nat → Bool} {held : Bool} {t : TypeId} (ht : P.underlying t = some .string) :
    ∀ fuel cs y, DataW.trod enc P w base spare held fuel t cs = some y → ∃ x, Kd.string.K w x cs := by
  intro fuel cs y h
  obtain ⟨x, e, _, _⟩ := DataW.trod_string ht h
  exact ⟨x, e⟩
theorem bool_K {H : Type} {enc : TypeId × Value → H} {P : Program} {w : World} {base : Nat} {spare : Nat → Bool} {held : Bool} {t : TypeId} (ht : P.underlying t = some .bool) :
    ∀ fuel cs y, DataW.trod enc P w base spare held fuel t cs = some y → ∃ x, Kd.bool.K w x cs := by
  intro fuel cs y h
  obtain ⟨x, e, _⟩ := DataW.trod_bool ht h
  exact ⟨x, e⟩
end Go.Proofs.Ytdkepbmpcbnkpaa.XRow
