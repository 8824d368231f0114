/- A row of changes that comes in, read. -/
import Derived.Test.YtlahimndndlbiaaPWalJoinsx0
import Derived.SliceStrings
import Derived.ChangeShapes
import Derived.SizedLaws
namespace Go.Proofs.Ytlahimndndlbiaa.PWalJoins
open Go.RowKit Go.ChangeShapes Go.WideShapes Go.Proofs.YtlahimndndlbiaaW.PrintWords Go.Proofs.YtlahimndndlbiaaW.PrintLast Go.Proofs.YtlahimndndlbiaaW.PrintMore
theorem cells33 : Try.prog.cellsOf 33 = 3 := by kernel_rfl
theorem cells9 : Try.prog.cellsOf 9 = 1 := by kernel_rfl
theorem cells4 : Try.prog.cellsOf 4 = 1 := by kernel_rfl
theorem change_open {H : Type} {enc : TypeId × Value → H} {w : World} {base : Nat} {spare : Nat → Bool} {held : Bool} {fuel : Nat} {cs : List Value} {y : DataW H × List MemPlace}
    (h : DataW.trod enc Try.prog w base spare held fuel 33 cs = some y) : ∃ z : S33, cs = [.string z.f0, .string z.f1, .bool z.f2] := by
  obtain ⟨xs, m, _, _, hl, hx, hf⟩ := DataW.trod_struct Try.underlying33 h
  rw [cells33] at hl
  have f0 := hf 0 _ rfl
  have f1 := hf 1 _ rfl
  have f2 := hf 2 _ rfl
  match cs, hl with
  | [c0, c1, c2], _ =>
    match xs, hx with
    | [y0, y1, y2], _ =>
      simp [cells9, cells4] at f0 f1 f2
      obtain ⟨s0, e0, _, _⟩ := DataW.trod_string Try.underlying9 f0
      obtain ⟨s1, e1, _, _⟩ := DataW.trod_string Try.underlying9 f1
      obtain ⟨s2, e2, _⟩ := DataW.trod_bool Try.underlying4 f2
      simp at e0 e1 e2
      subst e0 e1 e2
      exact ⟨⟨s0, s1, s2⟩, rfl⟩
theorem rows_read {H : Type} {enc : TypeId × Value → H} {w : World} {base : Nat} {spare : Nat → Bool} {held : Bool} {A : Option Addr} {n c : Nat} {d : DataW H} {ps : List MemPlace}
    (h : DataW.Trod enc Try.prog w base spare held 22 (.slice A n c) d ps) : ∃ l : List S33, l.length = n ∧ n ≤ c ∧ Kd.C k33 w A n l ∧ (n = 0 ∨ ∃ elems spare_, d = .slice elems spare_ ∧ elems.length = n) := by
  obtain ⟨fuel, hf⟩ := h
  rcases DataW.trod_slice Try.underlying22 hf with ⟨hcs, _⟩ | ⟨a, len, cap, elems, rest, m, _, hcs, hx, _, hl, hm, hlen, hel, _, _⟩
  · simp [Value.cells] at hcs
    obtain ⟨rfl, rfl, rfl⟩ := hcs
    exact ⟨[], rfl, Nat.le_refl _, ⟨rfl, by omega, fun h => absurd h (by omega)⟩, .inl rfl⟩
  · simp [Value.cells] at hcs
    obtain ⟨rfl, rfl, rfl⟩ := hcs
    have each : ∀ i, ∃ z : S33, i < n → ∀ j u, ([.string z.f0, .string z.f1, .bool z.f2] : List Value)[j]? = some u → w.cell? (a.add (i * 3 + j)) = some u := by
      intro i
      by_cases hi : i < n
      · have h1 := hel i hi
        rw [cells33, List.getElem?_eq_getElem (by omega), Option.bind_eq_some_iff] at h1
        obtain ⟨cs, hcs, ht⟩ := h1
        obtain ⟨z, rfl⟩ := change_open ht
        refine ⟨z, fun _ j u hu => ?_⟩
        have h3 := (World.cells?_some hcs).2.2 j
        have hj : j < 3 := by
          have := (List.getElem?_eq_some_iff.mp hu).1
          simpa using this
        have h4 := h3 (by simpa using hj)
        have ea : a.add (i * 3 + j) = (a.add (i * 3)).add j := by
          unfold Addr.add
          by_cases h1 : i * 3 = 0 <;> by_cases h2 : j = 0 <;> simp [h1, h2, Nat.add_assoc]
        rw [ea, h4, hu]
      · exact ⟨z33, fun h => absurd h hi⟩
    obtain ⟨f, hff⟩ := Classical.axiomOfChoice each
    refine ⟨(List.range n).map f, by simp, hl, ⟨by simp, by simp only [maxLen] at hm; omega, fun hn => ⟨a, rfl, fun j p hp => ⟨[.string p.f0, .string p.f1, .bool p.f2], rfl, k33_mk w p, fun i u hu => ?_⟩⟩⟩, .inr ⟨_, _, congrArg Prod.fst hx, by rw [List.length_map]; exact hlen⟩⟩
    have hjn : j < n := by
      have := (List.getElem?_eq_some_iff.mp hp).1
      simpa using this
    have hp2 : p = f j := by
      simp [hjn] at hp
      exact hp.symm
    subst hp2
    exact hff j hjn i u hu
theorem rows_len {H : Type} {ts : List TypeId} {ds : List (DataW H)} (h : (DataW.weightsEach Try.prog ts ds).all (· ≤ reachBytes) = true) {j n : Nat} {d : DataW H} (ht : ts[j]? = some 22) (hd : ds[j]? = some d)
    (hn : n = 0 ∨ ∃ elems spare_, d = .slice elems spare_ ∧ elems.length = n) : n < 3518437208880 := by
  rcases hn with rfl | ⟨elems, sp, rfl, rfl⟩
  · decide
  · have z := sized_slice h ht hd Try.underlying22
    rw [show Try.prog.bytesOf 33 = 40 by kernel_rfl] at z
    have e : reachBytes = 140737488351232 := rfl
    omega
end Go.Proofs.Ytlahimndndlbiaa.PWalJoins
