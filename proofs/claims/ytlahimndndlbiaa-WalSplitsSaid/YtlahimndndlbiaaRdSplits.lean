/- Rows of records and of numbers that come in, read. -/
import Derived.Test.YtlahimndndlbiaaPWalSplitsx0
import Derived.Test.YtlahimndndlbiaaXRow
namespace Go.Proofs.Ytlahimndndlbiaa.PWalSplits
open Go.RowKit Go.ChangeShapes Go.WideShapes Go.Proofs.YtlahimndndlbiaaW.PrintWords Go.Proofs.YtlahimndndlbiaaW.PrintLast Go.Proofs.YtlahimndndlbiaaW.PrintMore Go.Proofs.Ytlahimndndlbiaa.XRow
theorem cells33 : Try.prog.cellsOf 33 = 3 := by kernel_rfl
theorem cells22 : Try.prog.cellsOf 22 = 1 := by kernel_rfl
theorem cells9 : Try.prog.cellsOf 9 = 1 := by kernel_rfl
theorem cells4 : Try.prog.cellsOf 4 = 1 := by kernel_rfl
theorem cells3 : Try.prog.cellsOf 3 = 1 := by kernel_rfl
theorem change_K {H : Type} {enc : TypeId × Value → H} {w : World} {base : Nat} {spare : Nat → Bool} {held : Bool} :
    ∀ fuel cs y, DataW.trod enc Try.prog w base spare held fuel 33 cs = some y → ∃ z, k33.K w z cs := by
  intro fuel cs y h
  obtain ⟨xs, m, _, _, hl, hx, hf⟩ := DataW.trod_struct Try.underlying33 h
  rw [cells33] at hl
  have f0 := hf 0 _ rfl
  have f1 := hf 1 _ rfl
  have f2 := hf 2 _ rfl
  match cs, hl with
  | [c0, c1, c2], _ =>
    match xs, hx with
    | [y0, y1, y2], _ =>
      simp [cells9, cells4] at f0 f1 f2
      obtain ⟨s0, e0, _, _⟩ := DataW.trod_string Try.underlying9 f0
      obtain ⟨s1, e1, _, _⟩ := DataW.trod_string Try.underlying9 f1
      obtain ⟨s2, e2, _⟩ := DataW.trod_bool Try.underlying4 f2
      simp at e0 e1 e2
      subst e0 e1 e2
      exact ⟨⟨s0, s1, s2⟩, k33_mk w _⟩
theorem rows_read35 {H : Type} {enc : TypeId × Value → H} {w : World} {base : Nat} {spare : Nat → Bool} {held : Bool} {A : Option Addr} {n c : Nat} {d : DataW H} {ps : List MemPlace}
    (h : DataW.Trod enc Try.prog w base spare held 35 (.slice A n c) d ps) : ∃ l : List (List S33), l.length = n ∧ n ≤ c ∧ Kd.C (Kd.slice 33 k33) w A n l :=
  rows_open [] Try.underlying35 cells22 (slice_K z33 Try.underlying22 cells33 change_K) h
theorem rows_read41 {H : Type} {enc : TypeId × Value → H} {w : World} {base : Nat} {spare : Nat → Bool} {held : Bool} {A : Option Addr} {n c : Nat} {d : DataW H} {ps : List MemPlace}
    (h : DataW.Trod enc Try.prog w base spare held 41 (.slice A n c) d ps) : ∃ l : List Int, l.length = n ∧ n ≤ c ∧ Kd.C (Kd.int .i64) w A n l :=
  rows_open 0 Try.underlying41 cells3 (int_K Try.underlying3) h
end Go.Proofs.Ytlahimndndlbiaa.PWalSplits
