import Derived.Test.YtgbhjkkfleeodaaDoorWMore
namespace Go.Proofs.YtgbhjkkfleeodaaDoor.XW
open Go.RowKit Go.Proofs.YtgbhjkkfleeodaaDoorW.PrintWords Go.Proofs.YtgbhjkkfleeodaaDoorW.PrintMore
theorem bytes_frozen (W : World) (e : TypeId) (s : ByteArray) (j : Nat) (hj : j < s.size) : (Lib.bytesWorld W e s).frozen? ⟨W.heap.size, j, none⟩ = false := by
  simp only [World.frozen?, Lib.bytesWorld_at_new]
  have h : s.size ≤ (Lib.bytesCells W e s).size := by simp [Lib.bytesCells]
  have h2 : ¬ ((Lib.bytesCells W e s).size ≤ j) := by omega
  simp [h2]
theorem reads_set {w : World} {k : IntKind} {g n : Nat} {xs : List Int} (h : ReadsInt w k (some ⟨g, 0, none⟩) n xs) (i : Nat) (hi : i < n) (v : Int) : ReadsInt (w.setCell ⟨g, i, none⟩ (.int k v)) k (some ⟨g, 0, none⟩) n (xs.set i v) := by
  obtain ⟨h1, h2, h3⟩ := h
  refine ⟨by rw [List.length_set, h1], h2, fun h0 => ⟨_, rfl, fun j hj => ?_⟩⟩
  obtain ⟨ad, e, hc⟩ := h3 h0
  cases e
  rw [add_plain]
  by_cases e : i = j
  · subst e
    have := hc i hj
    rw [add_plain] at this
    rw [World.cell?_setCell_same _ _ _ this, List.getD_eq_getElem?_getD, List.getElem?_set_self (by omega)]; rfl
  · rw [World.cell?_setCell_other _ _ _ _ (by intro q; injection q with _ q; exact e q)]
    have := hc j hj
    rw [add_plain] at this
    rw [this, List.getD_eq_getElem?_getD, List.getD_eq_getElem?_getD, List.getElem?_set_ne e]
theorem reads_cell {w : World} {k : IntKind} {g n : Nat} {xs : List Int} (h : ReadsInt w k (some ⟨g, 0, none⟩) n xs) (i : Nat) (hi : i < n) : w.cell? ⟨g, i, none⟩ = some (.int k (xs.getD i 0)) := by
  obtain ⟨ad, e, hc⟩ := h.2.2 (by omega)
  cases e
  have := hc i hi
  rwa [add_plain] at this
end Go.Proofs.YtgbhjkkfleeodaaDoor.XW
