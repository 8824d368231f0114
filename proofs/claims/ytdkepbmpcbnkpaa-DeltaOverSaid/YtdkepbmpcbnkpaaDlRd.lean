/- Rows of changes that come in, read. -/
import Derived.Test.YtdkepbmpcbnkpaaDlJ
import Derived.Test.YtdkepbmpcbnkpaaXRow
namespace Go.Proofs.Ytdkepbmpcbnkpaa.PDeltaClones
open Go.Proofs.Ytdkepbmpcbnkpaa.PDeltaPlays Go.Proofs.Ytdkepbmpcbnkpaa.XB Go.RowKit Go.ChangeShapes Go.WideShapes Go.Proofs.YtdkepbmpcbnkpaaW.PrintWords Go.Proofs.YtdkepbmpcbnkpaaW.PrintLast Go.Proofs.YtdkepbmpcbnkpaaW.PrintMore Go.Proofs.Ytdkepbmpcbnkpaa.XRow Go.Proofs.Ytdkepbmpcbnkpaa.Dl
theorem cells26 : Try.prog.cellsOf 26 = 3 := by kernel_rfl
theorem cells9 : Try.prog.cellsOf 9 = 1 := by kernel_rfl
theorem cells4 : Try.prog.cellsOf 4 = 1 := by kernel_rfl
theorem ch_K {H : Type} {enc : TypeId × Value → H} {w : World} {base : Nat} {spare : Nat → Bool} {held : Bool} :
    ∀ fuel cs y, DataW.trod enc Try.prog w base spare held fuel 26 cs = some y → ∃ z, k26.K w z cs := by
  intro fuel cs y h
  obtain ⟨xs, m, _, _, hl, hx, hf⟩ := DataW.trod_struct Try.underlying26 h
  rw [cells26] at hl
  have f0 := hf 0 _ rfl
  have f1 := hf 1 _ rfl
  have f2 := hf 2 _ rfl
  match cs, hl with
  | [c0, c1, c2], _ =>
    match xs, hx with
    | [y0, y1, y2], _ =>
      simp [cells9, cells4] at f0 f1 f2
      obtain ⟨s0, e0, _⟩ := DataW.trod_string Try.underlying9 f0
      obtain ⟨s1, e1, _⟩ := DataW.trod_string Try.underlying9 f1
      obtain ⟨s2, e2, _⟩ := DataW.trod_bool Try.underlying4 f2
      simp at e0 e1 e2
      subst e0 e1 e2
      exact ⟨⟨s0, s1, s2⟩, k26_mk w _⟩
theorem rows_read22 {H : Type} {enc : TypeId × Value → H} {w : World} {base : Nat} {spare : Nat → Bool} {held : Bool} {A : Option Addr} {n c : Nat} {d : DataW H} {ps : List MemPlace}
    (h : DataW.Trod enc Try.prog w base spare held 22 (.slice A n c) d ps) : ∃ l : List S26, l.length = n ∧ n ≤ c ∧ Kd.C k26 w A n l :=
  rows_open z26 Try.underlying22 cells26 ch_K h
end Go.Proofs.Ytdkepbmpcbnkpaa.PDeltaClones
namespace Go.Proofs.Ytdkepbmpcbnkpaa.PDeltaPlays
open Go.RowKit Go.ChangeShapes Go.WideShapes Go.Proofs.YtdkepbmpcbnkpaaW.PrintWords Go.Proofs.YtdkepbmpcbnkpaaW.PrintLast Go.Proofs.YtdkepbmpcbnkpaaW.PrintMore
theorem rows_read22 {H : Type} {enc : TypeId × Value → H} {w : World} {base : Nat} {spare : Nat → Bool} {held : Bool} {A : Option Addr} {n c : Nat} {d : DataW H} {ps : List MemPlace}
    (h : DataW.Trod enc Try.prog w base spare held 22 (.slice A n c) d ps) : ∃ l : List S26, l.length = n ∧ n ≤ c ∧ Kd.C k26 w A n l :=
  PDeltaClones.rows_read22 h
end Go.Proofs.Ytdkepbmpcbnkpaa.PDeltaPlays
