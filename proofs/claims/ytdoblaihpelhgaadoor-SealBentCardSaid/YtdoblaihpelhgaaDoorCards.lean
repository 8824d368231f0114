/-
  DERIVED. GIVEN WITH THE SEED: THE CARDS: each row of YtdoblaihpelhgaaDoorRows.lean that lists a variable, with what it lists TIED to the program's text (the seventh form; the later family's looks); each row that meets fmt, with fmt's text TOLD by the authors' own Lean function (tested against real Go, not proved from fmt's source: count such statements apart). THE CARD IS WHAT COUNTS. Prove the row's statement (the work); the ties are given (YtdoblaihpelhgaaDoorTie.lean); close each card by the builder's one call (the guide's Derived/Test/ToyasCard.lean, 'card_holds'). Laid BY PROGRAM, IN A SANDBOX (cutbox-door.mjs). By AI agents, Wed Nov 11 2026. No macro, syntax, notation, axiom, sorry.
-/
import Derived.Test.YtdoblaihpelhgaaDoorRows
import GoSem.ClaimSeven
namespace Go.Proofs.YtdoblaihpelhgaaDoor
namespace Rows

/-- THE TIED CARD OF 'lodestonelaw10.SealPuts'. -/
def sealPutsCard : Claim7 := { stood := { row := sealPutsRow, standIns := [], harness := (true, "995316d09e36f47738c920f98db97a6eb825cd2f1a5f0e630db446a1ad32572f"), looks := false }, kinds := [], alts := [], laidByText := true, laidKinds := [.data], laidTests := true, laidLooks := .later }
def SealPutsCardSaid : Prop := Claim7.holds Tryd.pinned (.plain (OpenSpec.ofChange sealPutsSpec)) sealPutsCard

/-- THE TIED CARD OF 'lodestonelaw10.SealGets'. -/
def sealGetsCard : Claim7 := { stood := { row := sealGetsRow, standIns := [], harness := (true, "995316d09e36f47738c920f98db97a6eb825cd2f1a5f0e630db446a1ad32572f"), looks := false }, kinds := [], alts := [], laidByText := true, laidKinds := [.data], laidTests := true, laidLooks := .later }
def SealGetsCardSaid : Prop := Claim7.holds Tryd.pinned (.plain (OpenSpec.ofChange sealGetsSpec)) sealGetsCard

/-- THE TIED CARD OF 'lodestonelaw10.SealBent'. -/
def sealBentCard : Claim7 := { stood := { row := sealBentRow, standIns := [], harness := (true, "995316d09e36f47738c920f98db97a6eb825cd2f1a5f0e630db446a1ad32572f"), looks := false }, kinds := [], alts := [], laidByText := true, laidKinds := [.data], laidTests := true, laidLooks := .later }
def SealBentCardSaid : Prop := Claim7.holds Tryd.pinned (.plain (OpenSpec.ofChange sealBentSpec)) sealBentCard

/-- THE SECOND FORM's CARD OF 'lodestonelaw10.SealPuts'. -/
def sealPutsUptoCard : Claim7 := { stood := { row := sealPutsUptoRow, standIns := [], harness := (true, "995316d09e36f47738c920f98db97a6eb825cd2f1a5f0e630db446a1ad32572f"), looks := false }, kinds := [], alts := [], laidByText := true, laidKinds := [.data], laidTests := true, laidLooks := .later }
def SealPutsUptoCardSaid : Prop := Claim7.holds Tryd.pinned (.plain (OpenSpec.upto sealPutsSpec)) sealPutsUptoCard

/-- THE SECOND FORM's CARD OF 'lodestonelaw10.SealGets'. -/
def sealGetsUptoCard : Claim7 := { stood := { row := sealGetsUptoRow, standIns := [], harness := (true, "995316d09e36f47738c920f98db97a6eb825cd2f1a5f0e630db446a1ad32572f"), looks := false }, kinds := [], alts := [], laidByText := true, laidKinds := [.data], laidTests := true, laidLooks := .later }
def SealGetsUptoCardSaid : Prop := Claim7.holds Tryd.pinned (.plain (OpenSpec.upto sealGetsSpec)) sealGetsUptoCard

/-- THE SECOND FORM's CARD OF 'lodestonelaw10.SealBent'. -/
def sealBentUptoCard : Claim7 := { stood := { row := sealBentUptoRow, standIns := [], harness := (true, "995316d09e36f47738c920f98db97a6eb825cd2f1a5f0e630db446a1ad32572f"), looks := false }, kinds := [], alts := [], laidByText := true, laidKinds := [.data], laidTests := true, laidLooks := .later }
def SealBentUptoCardSaid : Prop := Claim7.holds Tryd.pinned (.plain (OpenSpec.upto sealBentSpec)) sealBentUptoCard
end Rows
end Go.Proofs.YtdoblaihpelhgaaDoor
