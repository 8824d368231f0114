/- Rows of indexes that come in, read. -/
import Derived.Test.YtehpdkgjclnilaaPSchemaGetsx0
import Derived.Test.YtehpdkgjclnilaaXRow
namespace Go.Proofs.Ytehpdkgjclnilaa.PSchemaGets
open Go.RowKit Go.ChangeShapes Go.WideShapes Go.Proofs.YtehpdkgjclnilaaW.PrintWords Go.Proofs.YtehpdkgjclnilaaW.PrintLast Go.Proofs.YtehpdkgjclnilaaW.PrintMore Go.Proofs.Ytehpdkgjclnilaa.XRow
theorem cells26 : Try.prog.cellsOf 26 = 3 := by kernel_rfl
theorem cells3 : Try.prog.cellsOf 3 = 1 := by kernel_rfl
theorem index_K {H : Type} {enc : TypeId × Value → H} {w : World} {base : Nat} {spare : Nat → Bool} {held : Bool} :
    ∀ fuel cs y, DataW.trod enc Try.prog w base spare held fuel 26 cs = some y → ∃ z, k26.K w z cs := by
  intro fuel cs y h
  obtain ⟨xs, m, _, _, hl, hx, hf⟩ := DataW.trod_struct Try.underlying26 h
  rw [cells26] at hl
  have f0 := hf 0 _ rfl
  have f1 := hf 1 _ rfl
  have f2 := hf 2 _ rfl
  match cs, hl with
  | [c0, c1, c2], _ =>
    match xs, hx with
    | [y0, y1, y2], _ =>
      simp [cells3] at f0 f1 f2
      obtain ⟨s0, e0, _⟩ := DataW.trod_int Try.underlying3 f0
      obtain ⟨s1, e1, _⟩ := DataW.trod_int Try.underlying3 f1
      obtain ⟨s2, e2, _⟩ := DataW.trod_int Try.underlying3 f2
      simp at e0 e1 e2
      subst e0 e1 e2
      exact ⟨⟨s0, s1, s2⟩, k26_mk w _⟩
theorem rows_read22 {H : Type} {enc : TypeId × Value → H} {w : World} {base : Nat} {spare : Nat → Bool} {held : Bool} {A : Option Addr} {n c : Nat} {d : DataW H} {ps : List MemPlace}
    (h : DataW.Trod enc Try.prog w base spare held 22 (.slice A n c) d ps) : ∃ l : List S26, l.length = n ∧ n ≤ c ∧ Kd.C k26 w A n l :=
  rows_open z26 Try.underlying22 cells26 index_K h
end Go.Proofs.Ytehpdkgjclnilaa.PSchemaGets
