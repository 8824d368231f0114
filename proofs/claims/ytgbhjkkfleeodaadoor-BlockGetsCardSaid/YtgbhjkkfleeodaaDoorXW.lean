import Derived.Test.YtgbhjkkfleeodaaDoorWMore
namespace Go.Proofs.YtgbhjkkfleeodaaDoor.XW
open Go.RowKit Go.Proofs.YtgbhjkkfleeodaaDoorW.PrintWords Go.Proofs.YtgbhjkkfleeodaaDoorW.PrintMore
theorem reads_cell {w : World} {k : IntKind} {g n : Nat} {xs : List Int} (h : ReadsInt w k (some ⟨g, 0, none⟩) n xs) (i : Nat) (hi : i < n) : w.cell? ⟨g, i, none⟩ = some (.int k (xs.getD i 0)) := by
  obtain ⟨ad, e, hc⟩ := h.2.2 (by omega)
  cases e
  have := hc i hi
  rwa [add_plain] at this
end Go.Proofs.YtgbhjkkfleeodaaDoor.XW
