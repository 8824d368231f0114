/-
  DERIVED. GIVEN WITH THE SEED: THE CARDS: each row of YtlllahlhijikoaaDoorRows.lean that lists a variable, with what it lists TIED to the program's text (the seventh form; the later family's looks); each row that meets fmt, with fmt's text TOLD by the authors' own Lean function (tested against real Go, not proved from fmt's source: count such statements apart). THE CARD IS WHAT COUNTS. Prove the row's statement (the work); the ties are given (YtlllahlhijikoaaDoorTie.lean); close each card by the builder's one call (the guide's Derived/Test/ToyasCard.lean, 'card_holds'). Laid BY PROGRAM, IN A SANDBOX (cutbox-door.mjs). By AI agents, Wed Nov 11 2026. No macro, syntax, notation, axiom, sorry.
-/
import Derived.Test.YtlllahlhijikoaaDoorRows
import GoSem.ClaimSeven
namespace Go.Proofs.YtlllahlhijikoaaDoor
namespace Rows

/-- THE TIED CARD OF 'lodestonelaw05.OrderNone'. -/
def orderNoneCard : Claim7 := { stood := { row := orderNoneRow, standIns := [], harness := (true, "8e64e78f6679e8a70fbaf89800a841e368e09702b124700dff803ebadab88882"), looks := false }, kinds := [], alts := [], laidByText := true, laidKinds := [.data, .pinned], laidTests := true, laidLooks := .later }
def OrderNoneCardSaid : Prop := Claim7.holds Tryd.pinned (.plain (OpenSpec.ofChange orderNoneSpec)) orderNoneCard

/-- THE TIED CARD OF 'lodestonelaw05.OrderPuts'. -/
def orderPutsCard : Claim7 := { stood := { row := orderPutsRow, standIns := [], harness := (true, "8e64e78f6679e8a70fbaf89800a841e368e09702b124700dff803ebadab88882"), looks := false }, kinds := [], alts := [], laidByText := true, laidKinds := [.data, .pinned], laidTests := true, laidLooks := .later }
def OrderPutsCardSaid : Prop := Claim7.holds Tryd.pinned (.plain (OpenSpec.ofChange orderPutsSpec)) orderPutsCard

/-- THE TIED CARD OF 'lodestonelaw05.OrderRises'. -/
def orderRisesCard : Claim7 := { stood := { row := orderRisesRow, standIns := [], harness := (true, "8e64e78f6679e8a70fbaf89800a841e368e09702b124700dff803ebadab88882"), looks := false }, kinds := [], alts := [], laidByText := true, laidKinds := [.data, .pinned], laidTests := true, laidLooks := .later }
def OrderRisesCardSaid : Prop := Claim7.holds Tryd.pinned (.plain (OpenSpec.ofChange orderRisesSpec)) orderRisesCard

/-- THE SECOND FORM's CARD OF 'lodestonelaw05.OrderNone'. -/
def orderNoneUptoCard : Claim7 := { stood := { row := orderNoneUptoRow, standIns := [], harness := (true, "8e64e78f6679e8a70fbaf89800a841e368e09702b124700dff803ebadab88882"), looks := false }, kinds := [], alts := [], laidByText := true, laidKinds := [.data, .pinned], laidTests := true, laidLooks := .later }
def OrderNoneUptoCardSaid : Prop := Claim7.holds Tryd.pinned (.plain (OpenSpec.upto orderNoneSpec)) orderNoneUptoCard

/-- THE SECOND FORM's CARD OF 'lodestonelaw05.OrderPuts'. -/
def orderPutsUptoCard : Claim7 := { stood := { row := orderPutsUptoRow, standIns := [], harness := (true, "8e64e78f6679e8a70fbaf89800a841e368e09702b124700dff803ebadab88882"), looks := false }, kinds := [], alts := [], laidByText := true, laidKinds := [.data, .pinned], laidTests := true, laidLooks := .later }
def OrderPutsUptoCardSaid : Prop := Claim7.holds Tryd.pinned (.plain (OpenSpec.upto orderPutsSpec)) orderPutsUptoCard

/-- THE SECOND FORM's CARD OF 'lodestonelaw05.OrderRises'. -/
def orderRisesUptoCard : Claim7 := { stood := { row := orderRisesUptoRow, standIns := [], harness := (true, "8e64e78f6679e8a70fbaf89800a841e368e09702b124700dff803ebadab88882"), looks := false }, kinds := [], alts := [], laidByText := true, laidKinds := [.data, .pinned], laidTests := true, laidLooks := .later }
def OrderRisesUptoCardSaid : Prop := Claim7.holds Tryd.pinned (.plain (OpenSpec.upto orderRisesSpec)) orderRisesUptoCard
end Rows
end Go.Proofs.YtlllahlhijikoaaDoor
