/- Rows of acts that come in, read. -/
import Derived.Test.YtaomjdgdkdkibaaDkS
import Derived.Test.YtaomjdgdkdkibaaXRow
namespace Go.Proofs.Ytaomjdgdkdkibaa.PDiskSure
open Go.RowKit Go.ChangeShapes Go.WideShapes Go.Proofs.YtaomjdgdkdkibaaW.PrintWords Go.Proofs.YtaomjdgdkdkibaaW.PrintLast Go.Proofs.YtaomjdgdkdkibaaW.PrintMore Go.Proofs.Ytaomjdgdkdkibaa.XRow Go.Proofs.Ytaomjdgdkdkibaa.Dk
theorem cells33 : Try.prog.cellsOf 33 = 4 := by kernel_rfl
theorem cells3 : Try.prog.cellsOf 3 = 1 := by kernel_rfl
theorem cells23 : Try.prog.cellsOf 23 = 1 := by kernel_rfl
theorem cells5 : Try.prog.cellsOf 5 = 1 := by kernel_rfl
theorem act_K {H : Type} {enc : TypeId × Value → H} {w : World} {base : Nat} {spare : Nat → Bool} {held : Bool} :
    ∀ fuel cs y, DataW.trod enc Try.prog w base spare held fuel 33 cs = some y → ∃ z, k33.K w z cs := by
  intro fuel cs y h
  obtain ⟨xs, m, _, _, hl, hx, hf⟩ := DataW.trod_struct Try.underlying33 h
  rw [cells33] at hl
  have f0 := hf 0 _ rfl
  have f1 := hf 1 _ rfl
  have f2 := hf 2 _ rfl
  have f3 := hf 3 _ rfl
  match cs, hl with
  | [c0, c1, c2, c3], _ =>
    match xs, hx with
    | [y0, y1, y2, y3], _ =>
      simp [cells3, cells23, cells5] at f0 f1 f2 f3
      obtain ⟨s0, e0, _⟩ := DataW.trod_int Try.underlying3 f0
      obtain ⟨s1, e1, _⟩ := DataW.trod_int Try.underlying3 f1
      obtain ⟨s2, e2, _⟩ := DataW.trod_int Try.underlying5 f2
      obtain ⟨s3, e3, _⟩ := DataW.trod_int Try.underlying23 f3
      simp at e0 e1 e2 e3
      subst e0 e1 e2 e3
      exact ⟨⟨s0, s1, s2, s3⟩, k33_mk w _⟩
theorem rows_read22 {H : Type} {enc : TypeId × Value → H} {w : World} {base : Nat} {spare : Nat → Bool} {held : Bool} {A : Option Addr} {n c : Nat} {d : DataW H} {ps : List MemPlace}
    (h : DataW.Trod enc Try.prog w base spare held 22 (.slice A n c) d ps) : ∃ l : List S33, l.length = n ∧ n ≤ c ∧ Kd.C k33 w A n l :=
  rows_open z33 Try.underlying22 cells33 act_K h
theorem u64_pos {a : Int} (h : (Lit.int .u64 a).wf = true) : 0 ≤ a := by
  have e1 : IntKind.u64.min = 0 := by decide
  simp [Lit.wf, e1] at h
  exact h.1
end Go.Proofs.Ytaomjdgdkdkibaa.PDiskSure
