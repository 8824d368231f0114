/-
  DERIVED. GIVEN WITH THE SEED: THE CARDS: each row of YtgbhjkkfleeodaaDoorRows.lean that lists a variable, with what it lists TIED to the program's text (the seventh form; the later family's looks); each row that meets fmt, with fmt's text TOLD by the authors' own Lean function (tested against real Go, not proved from fmt's source: count such statements apart). THE CARD IS WHAT COUNTS. Prove the row's statement (the work); the ties are given (YtgbhjkkfleeodaaDoorTie.lean); close each card by the builder's one call (the guide's Derived/Test/ToyasCard.lean, 'card_holds'). Laid BY PROGRAM, IN A SANDBOX (cutbox-door.mjs). By AI agents, Wed Nov 11 2026. No macro, syntax, notation, axiom, sorry.
-/
import Derived.Test.YtgbhjkkfleeodaaDoorRows
import GoSem.ClaimSeven
namespace Go.Proofs.YtgbhjkkfleeodaaDoor
namespace Rows

/-- THE TIED CARD OF 'lodestonelaw11.BlockPuts'. -/
def blockPutsCard : Claim7 := { stood := { row := blockPutsRow, standIns := [], harness := (true, "5e033d52b1909c901187941086f557f9da2d63e681533b067158b1886f9bac42"), looks := false }, kinds := [], alts := [], laidByText := true, laidKinds := [.data, .data, .pinned], laidTests := true, laidLooks := .later }
def BlockPutsCardSaid : Prop := Claim7.holds Tryd.pinned (.plain (OpenSpec.ofChange blockPutsSpec)) blockPutsCard

/-- THE TIED CARD OF 'lodestonelaw11.BlockGets'. -/
def blockGetsCard : Claim7 := { stood := { row := blockGetsRow, standIns := [], harness := (true, "5e033d52b1909c901187941086f557f9da2d63e681533b067158b1886f9bac42"), looks := false }, kinds := [], alts := [], laidByText := true, laidKinds := [.data, .data, .pinned], laidTests := true, laidLooks := .later }
def BlockGetsCardSaid : Prop := Claim7.holds Tryd.pinned (.plain (OpenSpec.ofChange blockGetsSpec)) blockGetsCard

/-- THE TIED CARD OF 'lodestonelaw11.BlockPlaces'. -/
def blockPlacesCard : Claim7 := { stood := { row := blockPlacesRow, standIns := [], harness := (true, "5e033d52b1909c901187941086f557f9da2d63e681533b067158b1886f9bac42"), looks := false }, kinds := [], alts := [], laidByText := true, laidKinds := [.data, .data, .pinned], laidTests := true, laidLooks := .later }
def BlockPlacesCardSaid : Prop := Claim7.holds Tryd.pinned (.plain (OpenSpec.ofChange blockPlacesSpec)) blockPlacesCard

/-- THE SECOND FORM's CARD OF 'lodestonelaw11.BlockPuts'. -/
def blockPutsUptoCard : Claim7 := { stood := { row := blockPutsUptoRow, standIns := [], harness := (true, "5e033d52b1909c901187941086f557f9da2d63e681533b067158b1886f9bac42"), looks := false }, kinds := [], alts := [], laidByText := true, laidKinds := [.data, .data, .pinned], laidTests := true, laidLooks := .later }
def BlockPutsUptoCardSaid : Prop := Claim7.holds Tryd.pinned (.plain (OpenSpec.upto blockPutsSpec)) blockPutsUptoCard

/-- THE SECOND FORM's CARD OF 'lodestonelaw11.BlockGets'. -/
def blockGetsUptoCard : Claim7 := { stood := { row := blockGetsUptoRow, standIns := [], harness := (true, "5e033d52b1909c901187941086f557f9da2d63e681533b067158b1886f9bac42"), looks := false }, kinds := [], alts := [], laidByText := true, laidKinds := [.data, .data, .pinned], laidTests := true, laidLooks := .later }
def BlockGetsUptoCardSaid : Prop := Claim7.holds Tryd.pinned (.plain (OpenSpec.upto blockGetsSpec)) blockGetsUptoCard

/-- THE SECOND FORM's CARD OF 'lodestonelaw11.BlockPlaces'. -/
def blockPlacesUptoCard : Claim7 := { stood := { row := blockPlacesUptoRow, standIns := [], harness := (true, "5e033d52b1909c901187941086f557f9da2d63e681533b067158b1886f9bac42"), looks := false }, kinds := [], alts := [], laidByText := true, laidKinds := [.data, .data, .pinned], laidTests := true, laidLooks := .later }
def BlockPlacesUptoCardSaid : Prop := Claim7.holds Tryd.pinned (.plain (OpenSpec.upto blockPlacesSpec)) blockPlacesUptoCard
end Rows
end Go.Proofs.YtgbhjkkfleeodaaDoor
