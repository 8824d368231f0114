/- Rows of acts that come in, read. -/
import Derived.Test.YtonbonailghjjaaLkQ
import Derived.Test.YtonbonailghjjaaXRow
namespace Go.Proofs.Ytonbonailghjjaa.PLockPlays
open Go.RowKit Go.ChangeShapes Go.WideShapes Go.Proofs.YtonbonailghjjaaW.PrintWords Go.Proofs.YtonbonailghjjaaW.PrintLast Go.Proofs.YtonbonailghjjaaW.PrintMore Go.Proofs.Ytonbonailghjjaa.XRow Go.Proofs.Ytonbonailghjjaa.Lk
theorem cells31 : Try.prog.cellsOf 31 = 4 := by kernel_rfl
theorem cells3 : Try.prog.cellsOf 3 = 1 := by kernel_rfl
theorem cells4 : Try.prog.cellsOf 4 = 1 := by kernel_rfl
theorem act_K {H : Type} {enc : TypeId × Value → H} {w : World} {base : Nat} {spare : Nat → Bool} {held : Bool} :
    ∀ fuel cs y, DataW.trod enc Try.prog w base spare held fuel 31 cs = some y → ∃ z, k31.K w z cs := by
  intro fuel cs y h
  obtain ⟨xs, m, _, _, hl, hx, hf⟩ := DataW.trod_struct Try.underlying31 h
  rw [cells31] at hl
  have f0 := hf 0 _ rfl
  have f1 := hf 1 _ rfl
  have f2 := hf 2 _ rfl
  have f3 := hf 3 _ rfl
  match cs, hl with
  | [c0, c1, c2, c3], _ =>
    match xs, hx with
    | [y0, y1, y2, y3], _ =>
      simp [cells3, cells4] at f0 f1 f2 f3
      obtain ⟨s0, e0, _⟩ := DataW.trod_int Try.underlying3 f0
      obtain ⟨s1, e1, _⟩ := DataW.trod_int Try.underlying3 f1
      obtain ⟨s2, e2, _⟩ := DataW.trod_bool Try.underlying4 f2
      obtain ⟨s3, e3, _⟩ := DataW.trod_bool Try.underlying4 f3
      simp at e0 e1 e2 e3
      subst e0 e1 e2 e3
      exact ⟨⟨s0, s1, s2, s3⟩, k31_mk w _⟩
theorem rows_read22 {H : Type} {enc : TypeId × Value → H} {w : World} {base : Nat} {spare : Nat → Bool} {held : Bool} {A : Option Addr} {n c : Nat} {d : DataW H} {ps : List MemPlace}
    (h : DataW.Trod enc Try.prog w base spare held 22 (.slice A n c) d ps) : ∃ l : List S31, l.length = n ∧ n ≤ c ∧ Kd.C k31 w A n l :=
  rows_open z31 Try.underlying22 cells31 act_K h
end Go.Proofs.Ytonbonailghjjaa.PLockPlays
