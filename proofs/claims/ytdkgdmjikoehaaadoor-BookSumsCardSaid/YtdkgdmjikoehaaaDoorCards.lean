/-
  DERIVED. GIVEN WITH THE SEED: THE CARDS: each row of YtdkgdmjikoehaaaDoorRows.lean that lists a variable, with what it lists TIED to the program's text (the seventh form; the later family's looks); each row that meets fmt, with fmt's text TOLD by the authors' own Lean function (tested against real Go, not proved from fmt's source: count such statements apart). THE CARD IS WHAT COUNTS. Prove the row's statement (the work); the ties are given (YtdkgdmjikoehaaaDoorTie.lean); close each card by the builder's one call (the guide's Derived/Test/ToyasCard.lean, 'card_holds'). Laid BY PROGRAM, IN A SANDBOX (cutbox-door.mjs). By AI agents, Wed Nov 11 2026. No macro, syntax, notation, axiom, sorry.
-/
import Derived.Test.YtdkgdmjikoehaaaDoorRows
import GoSem.ClaimSeven
namespace Go.Proofs.YtdkgdmjikoehaaaDoor
namespace Rows

/-- THE TIED CARD OF 'lodestonelaw06.BookSums'. -/
def bookSumsCard : Claim7 := { stood := { row := bookSumsRow, standIns := [], harness := (true, "e5d47d840b01f56c487b4103b5f50f5c913f9bd6fe235f3e2fac90a7869ac55b"), looks := false }, kinds := [], alts := [], laidByText := true, laidKinds := [.data], laidTests := true, laidLooks := .later }
def BookSumsCardSaid : Prop := Claim7.holds Tryd.pinned (.plain (OpenSpec.ofChange bookSumsSpec)) bookSumsCard

/-- THE TIED CARD OF 'lodestonelaw06.BookMany'. -/
def bookManyCard : Claim7 := { stood := { row := bookManyRow, standIns := [], harness := (true, "e5d47d840b01f56c487b4103b5f50f5c913f9bd6fe235f3e2fac90a7869ac55b"), looks := false }, kinds := [], alts := [], laidByText := true, laidKinds := [.data], laidTests := true, laidLooks := .later }
def BookManyCardSaid : Prop := Claim7.holds Tryd.pinned (.plain (OpenSpec.ofChange bookManySpec)) bookManyCard

/-- THE TIED CARD OF 'lodestonelaw06.BookReal'. -/
def bookRealCard : Claim7 := { stood := { row := bookRealRow, standIns := [], harness := (true, "e5d47d840b01f56c487b4103b5f50f5c913f9bd6fe235f3e2fac90a7869ac55b"), looks := false }, kinds := [], alts := [], laidByText := true, laidKinds := [.data], laidTests := true, laidLooks := .later }
def BookRealCardSaid : Prop := Claim7.holds Tryd.pinned (.plain (OpenSpec.ofChange bookRealSpec)) bookRealCard

/-- THE SECOND FORM's CARD OF 'lodestonelaw06.BookSums'. -/
def bookSumsUptoCard : Claim7 := { stood := { row := bookSumsUptoRow, standIns := [], harness := (true, "e5d47d840b01f56c487b4103b5f50f5c913f9bd6fe235f3e2fac90a7869ac55b"), looks := false }, kinds := [], alts := [], laidByText := true, laidKinds := [.data], laidTests := true, laidLooks := .later }
def BookSumsUptoCardSaid : Prop := Claim7.holds Tryd.pinned (.plain (OpenSpec.upto bookSumsSpec)) bookSumsUptoCard

/-- THE SECOND FORM's CARD OF 'lodestonelaw06.BookMany'. -/
def bookManyUptoCard : Claim7 := { stood := { row := bookManyUptoRow, standIns := [], harness := (true, "e5d47d840b01f56c487b4103b5f50f5c913f9bd6fe235f3e2fac90a7869ac55b"), looks := false }, kinds := [], alts := [], laidByText := true, laidKinds := [.data], laidTests := true, laidLooks := .later }
def BookManyUptoCardSaid : Prop := Claim7.holds Tryd.pinned (.plain (OpenSpec.upto bookManySpec)) bookManyUptoCard

/-- THE SECOND FORM's CARD OF 'lodestonelaw06.BookReal'. -/
def bookRealUptoCard : Claim7 := { stood := { row := bookRealUptoRow, standIns := [], harness := (true, "e5d47d840b01f56c487b4103b5f50f5c913f9bd6fe235f3e2fac90a7869ac55b"), looks := false }, kinds := [], alts := [], laidByText := true, laidKinds := [.data], laidTests := true, laidLooks := .later }
def BookRealUptoCardSaid : Prop := Claim7.holds Tryd.pinned (.plain (OpenSpec.upto bookRealSpec)) bookRealUptoCard
end Rows
end Go.Proofs.YtdkgdmjikoehaaaDoor
