/- Rows that come in, read: cuts, bytes, truths. -/
import Derived.Test.YtlgnljhhpheknaaDvB
import Derived.Test.YtlgnljhhpheknaaXRow
namespace Go.Proofs.Ytlgnljhhpheknaa.PDeviceBumps
open Go.RowKit Go.ChangeShapes Go.WideShapes Go.Proofs.YtlgnljhhpheknaaW.PrintWords Go.Proofs.YtlgnljhhpheknaaW.PrintLast Go.Proofs.YtlgnljhhpheknaaW.PrintMore Go.Proofs.Ytlgnljhhpheknaa.XRow Go.Proofs.Ytlgnljhhpheknaa.Dv
theorem cells48 : Try.prog.cellsOf 48 = 2 := by kernel_rfl
theorem cells3 : Try.prog.cellsOf 3 = 1 := by kernel_rfl
theorem cells34 : Try.prog.cellsOf 34 = 1 := by kernel_rfl
theorem cells5 : Try.prog.cellsOf 5 = 1 := by kernel_rfl
theorem cells4 : Try.prog.cellsOf 4 = 1 := by kernel_rfl
theorem cut_K {H : Type} {enc : TypeId × Value → H} {w : World} {base : Nat} {spare : Nat → Bool} {held : Bool} :
    ∀ fuel cs y, DataW.trod enc Try.prog w base spare held fuel 48 cs = some y → ∃ z, k48.K w z cs := by
  intro fuel cs y h
  obtain ⟨xs, m, _, _, hl, hx, hf⟩ := DataW.trod_struct Try.underlying48 h
  rw [cells48] at hl
  have f0 := hf 0 _ rfl
  have f1 := hf 1 _ rfl
  match cs, hl with
  | [c0, c1], _ =>
    match xs, hx with
    | [y0, y1], _ =>
      simp [cells3, cells34] at f0 f1
      obtain ⟨s0, e0, _⟩ := DataW.trod_int Try.underlying3 f0
      obtain ⟨s1, e1, _⟩ := DataW.trod_int Try.underlying34 f1
      simp at e0 e1
      subst e0 e1
      exact ⟨⟨s0, s1⟩, k48_mk w _⟩
variable {H : Type} {enc : TypeId × Value → H} {w : World} {base : Nat} {spare : Nat → Bool} {held : Bool} {A : Option Addr} {n c : Nat} {d : DataW H} {ps : List MemPlace}
theorem rows_read38 (h : DataW.Trod enc Try.prog w base spare held 38 (.slice A n c) d ps) : ∃ l : List S48, l.length = n ∧ n ≤ c ∧ Kd.C k48 w A n l :=
  rows_open z48 Try.underlying38 cells48 cut_K h
theorem rows_read39 (h : DataW.Trod enc Try.prog w base spare held 39 (.slice A n c) d ps) : ∃ l : List Int, l.length = n ∧ n ≤ c ∧ ReadsOf (Value.int .u8) 0 w A n l := by
  obtain ⟨l, h1, h2, h3⟩ := rows_open (d := Kd.int .u8) (0 : Int) Try.underlying39 cells5 (int_K Try.underlying5) h
  exact ⟨l, h1, h2, Kd.reads_of_C (enc := Value.int .u8) (d := (0 : Int)) (h1 := fun _ => rfl) h3⟩
theorem rows_read40 (h : DataW.Trod enc Try.prog w base spare held 40 (.slice A n c) d ps) : ∃ l : List Bool, l.length = n ∧ n ≤ c ∧ ReadsOf Value.bool false w A n l := by
  obtain ⟨l, h1, h2, h3⟩ := rows_open (d := Kd.bool) false Try.underlying40 cells4 (bool_K Try.underlying4) h
  exact ⟨l, h1, h2, Kd.reads_of_C (enc := Value.bool) (d := false) (h1 := fun _ => rfl) h3⟩
end Go.Proofs.Ytlgnljhhpheknaa.PDeviceBumps
