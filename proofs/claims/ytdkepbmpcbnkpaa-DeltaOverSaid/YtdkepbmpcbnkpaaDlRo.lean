/- Rows of acts and changes that come in, read. -/
import Derived.Test.YtdkepbmpcbnkpaaDlP
import Derived.Test.YtdkepbmpcbnkpaaDlRd
namespace Go.Proofs.Ytdkepbmpcbnkpaa.PDeltaOver
open Go.Proofs.Ytdkepbmpcbnkpaa.PDeltaPlays Go.Proofs.Ytdkepbmpcbnkpaa.XB Go.RowKit Go.ChangeShapes Go.WideShapes Go.Proofs.YtdkepbmpcbnkpaaW.PrintWords Go.Proofs.YtdkepbmpcbnkpaaW.PrintLast Go.Proofs.YtdkepbmpcbnkpaaW.PrintMore Go.Proofs.Ytdkepbmpcbnkpaa.XRow Go.Proofs.Ytdkepbmpcbnkpaa.Dl
theorem cells44 : Try.prog.cellsOf 44 = 4 := by kernel_rfl
theorem cells9 : Try.prog.cellsOf 9 = 1 := by kernel_rfl
theorem cells3 : Try.prog.cellsOf 3 = 1 := by kernel_rfl
theorem act_K {H : Type} {enc : TypeId × Value → H} {w : World} {base : Nat} {spare : Nat → Bool} {held : Bool} :
    ∀ fuel cs y, DataW.trod enc Try.prog w base spare held fuel 44 cs = some y → ∃ z, k44.K w z cs := by
  intro fuel cs y h
  obtain ⟨xs, m, _, _, hl, hx, hf⟩ := DataW.trod_struct Try.underlying44 h
  rw [cells44] at hl
  have f0 := hf 0 _ rfl
  have f1 := hf 1 _ rfl
  have f2 := hf 2 _ rfl
  have f3 := hf 3 _ rfl
  match cs, hl with
  | [c0, c1, c2, c3], _ =>
    match xs, hx with
    | [y0, y1, y2, y3], _ =>
      simp [cells9, cells3] at f0 f1 f2 f3
      obtain ⟨s0, e0, _⟩ := DataW.trod_int Try.underlying3 f0
      obtain ⟨s1, e1, _⟩ := DataW.trod_int Try.underlying3 f1
      obtain ⟨s2, e2, _⟩ := DataW.trod_string Try.underlying9 f2
      obtain ⟨s3, e3, _⟩ := DataW.trod_int Try.underlying3 f3
      simp at e0 e1 e2 e3
      subst e0 e1 e2 e3
      exact ⟨⟨s0, s1, s2, s3⟩, k44_mk w _⟩
theorem rows_read39 {H : Type} {enc : TypeId × Value → H} {w : World} {base : Nat} {spare : Nat → Bool} {held : Bool} {A : Option Addr} {n c : Nat} {d : DataW H} {ps : List MemPlace}
    (h : DataW.Trod enc Try.prog w base spare held 39 (.slice A n c) d ps) : ∃ l : List S44, l.length = n ∧ n ≤ c ∧ Kd.C k44 w A n l :=
  rows_open z44 Try.underlying39 cells44 act_K h
theorem rows_read22 {H : Type} {enc : TypeId × Value → H} {w : World} {base : Nat} {spare : Nat → Bool} {held : Bool} {A : Option Addr} {n c : Nat} {d : DataW H} {ps : List MemPlace}
    (h : DataW.Trod enc Try.prog w base spare held 22 (.slice A n c) d ps) : ∃ l : List S26, l.length = n ∧ n ≤ c ∧ Kd.C k26 w A n l :=
  PDeltaClones.rows_read22 h
end Go.Proofs.Ytdkepbmpcbnkpaa.PDeltaOver
