/-
  DERIVED. GIVEN WITH THE SEED: THE CARDS: each row of YthgagmgbfepohaaDoorRows.lean that lists a variable, with what it lists TIED to the program's text (the seventh form; the later family's looks); each row that meets fmt, with fmt's text TOLD by the authors' own Lean function (tested against real Go, not proved from fmt's source: count such statements apart). THE CARD IS WHAT COUNTS. Prove the row's statement (the work); the ties are given (YthgagmgbfepohaaDoorTie.lean); close each card by the builder's one call (the guide's Derived/Test/ToyasCard.lean, 'card_holds'). Laid BY PROGRAM, IN A SANDBOX (cutbox-door.mjs). By AI agents, Wed Nov 11 2026. No macro, syntax, notation, axiom, sorry.
-/
import Derived.Test.YthgagmgbfepohaaDoorRows
import GoSem.ClaimSeven
namespace Go.Proofs.YthgagmgbfepohaaDoor
namespace Rows

/-- THE TIED CARD OF 'lodestonelaw09.KeysOf'. -/
def keysOfCard : Claim7 := { stood := { row := keysOfRow, standIns := [], harness := (true, "829d84767a148a622e3324a7fa8d2074e2b79f03fcfbff580bb557484422cd82"), looks := false }, kinds := [], alts := [], laidByText := true, laidKinds := [.data], laidTests := true, laidLooks := .later }
def KeysOfCardSaid : Prop := Claim7.holds Tryd.pinned (.plain (OpenSpec.ofChange keysOfSpec)) keysOfCard

/-- THE TIED CARD OF 'lodestonelaw09.KeysTwice'. -/
def keysTwiceCard : Claim7 := { stood := { row := keysTwiceRow, standIns := [], harness := (true, "829d84767a148a622e3324a7fa8d2074e2b79f03fcfbff580bb557484422cd82"), looks := false }, kinds := [], alts := [], laidByText := true, laidKinds := [.data], laidTests := true, laidLooks := .later }
def KeysTwiceCardSaid : Prop := Claim7.holds Tryd.pinned (.plain (OpenSpec.ofChange keysTwiceSpec)) keysTwiceCard

/-- THE SECOND FORM's CARD OF 'lodestonelaw09.KeysOf'. -/
def keysOfUptoCard : Claim7 := { stood := { row := keysOfUptoRow, standIns := [], harness := (true, "829d84767a148a622e3324a7fa8d2074e2b79f03fcfbff580bb557484422cd82"), looks := false }, kinds := [], alts := [], laidByText := true, laidKinds := [.data], laidTests := true, laidLooks := .later }
def KeysOfUptoCardSaid : Prop := Claim7.holds Tryd.pinned (.plain (OpenSpec.upto keysOfSpec)) keysOfUptoCard

/-- THE SECOND FORM's CARD OF 'lodestonelaw09.KeysTwice'. -/
def keysTwiceUptoCard : Claim7 := { stood := { row := keysTwiceUptoRow, standIns := [], harness := (true, "829d84767a148a622e3324a7fa8d2074e2b79f03fcfbff580bb557484422cd82"), looks := false }, kinds := [], alts := [], laidByText := true, laidKinds := [.data], laidTests := true, laidLooks := .later }
def KeysTwiceUptoCardSaid : Prop := Claim7.holds Tryd.pinned (.plain (OpenSpec.upto keysTwiceSpec)) keysTwiceUptoCard
end Rows
end Go.Proofs.YthgagmgbfepohaaDoor
