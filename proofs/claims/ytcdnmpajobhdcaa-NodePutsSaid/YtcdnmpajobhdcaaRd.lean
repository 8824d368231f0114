/- Rows of entries that come in, read, with their texts' sizes. -/
import Derived.Test.YtcdnmpajobhdcaaPNodePutsx0
import Derived.Test.YtcdnmpajobhdcaaXRow2
namespace Go.Proofs.Ytcdnmpajobhdcaa.PNodePuts
open Go.RowKit Go.ChangeShapes Go.WideShapes Go.Proofs.YtcdnmpajobhdcaaW.PrintWords Go.Proofs.YtcdnmpajobhdcaaW.PrintLast Go.Proofs.YtcdnmpajobhdcaaW.PrintMore Go.Proofs.Ytcdnmpajobhdcaa.XRow
theorem cells43 : Try.prog.cellsOf 43 = 2 := by kernel_rfl
theorem cells9 : Try.prog.cellsOf 9 = 1 := by kernel_rfl
theorem entry_K {H : Type} {enc : TypeId × Value → H} {w : World} {base : Nat} {spare : Nat → Bool} {held : Bool} :
    ∀ fuel cs y, DataW.trod enc Try.prog w base spare held fuel 43 cs = some y → ∃ z : S43, k43.K w z cs ∧ (z.f0.size ∈ y.1.weights Try.prog 43 ∧ z.f1.size ∈ y.1.weights Try.prog 43) := by
  intro fuel cs y h
  obtain ⟨xs, m, _, hy, hl, hx, hf⟩ := DataW.trod_struct Try.underlying43 h
  rw [cells43] at hl
  have f0 := hf 0 _ rfl
  have f1 := hf 1 _ rfl
  match cs, hl with
  | [c0, c1], _ =>
    match xs, hx with
    | [y0, y1], _ =>
      simp [cells9] at f0 f1
      obtain ⟨s0, e0, d0, _⟩ := DataW.trod_string Try.underlying9 f0
      obtain ⟨s1, e1, d1, _⟩ := DataW.trod_string Try.underlying9 f1
      simp at e0 e1
      subst e0 e1 d0 d1 hy
      refine ⟨⟨s0, s1⟩, k43_mk w _, ?_, ?_⟩
      · simp [DataW.weights, Try.underlying43, DataW.weightsEach]
      · simp [DataW.weights, Try.underlying43, DataW.weightsEach]
/-- what comes in is a row of entries, whose texts are no longer than the machine reaches -/
theorem rows_read22 {H : Type} {enc : TypeId × Value → H} {w : World} {base : Nat} {spare : Nat → Bool} {held : Bool} {A : Option Addr} {n c : Nat} {d : DataW H} {ps : List MemPlace}
    (h : DataW.Trod enc Try.prog w base spare held 22 (.slice A n c) d ps) : ∃ l : List S43, l.length = n ∧ n ≤ c ∧ (Kd.C k43 w A n l ∧ ∀ i : Nat, i < n → (rd_T43 l (i : Int)).f0.size ∈ d.weights Try.prog 22 ∧ (rd_T43 l (i : Int)).f1.size ∈ d.weights Try.prog 22) := by
  obtain ⟨l, h1, h2, h3, h4⟩ := rows_openQ (d := k43) z43 (fun z dd => z.f0.size ∈ dd.weights Try.prog 43 ∧ z.f1.size ∈ dd.weights Try.prog 43) Try.underlying22 cells43 entry_K h
  refine ⟨l, h1, h2, h3, fun i hi => ?_⟩
  obtain ⟨dd, ⟨q0, q1⟩, hw⟩ := h4 i hi
  exact ⟨hw _ q0, hw _ q1⟩
end Go.Proofs.Ytcdnmpajobhdcaa.PNodePuts
