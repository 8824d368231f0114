import Derived.Test.YtgbhjkkfleeodaaDoorShaE
namespace Go.Proofs.YtgbhjkkfleeodaaDoor.Sha
open Go.RowKit
abbrev gSalts : Nat := 3
def SL (w : World) : Prop := (∀ i, i < 64 → w.cell? ⟨gSalts, i, none⟩ = some (.int .u32 (ssL.getD i 0))) ∧ 3 < w.heap.size
theorem SL.below {w w' : World} (h : SL w) (hb : Below w.heap.size w w') : SL w' :=
  ⟨fun i hi => (hb.cell (p := ⟨gSalts, i, none⟩) h.2).trans (h.1 i hi), Nat.lt_of_lt_of_le h.2 hb.size⟩
theorem sum_dig (s : ByteArray) (hs : s.size ≤ 140737488351232) (w : World) (h : SL w) :
    Calls Tryd.prog 86 #[.string s] w fun e w' => e = .returned (.string (dig s)) ∧ Below w.heap.size w w' := sum_calls s hs ssL ssL_length w h.1 h.2
theorem ref_dig (s : ByteArray) (hs : s.size ≤ 140737488351232) (w : World) :
    Calls Tryd.prog 27 #[.string s] w fun e w' => e = .returned (.string (dig s)) ∧ Below w.heap.size w w' := refsum_calls s hs w
end Go.Proofs.YtgbhjkkfleeodaaDoor.Sha
