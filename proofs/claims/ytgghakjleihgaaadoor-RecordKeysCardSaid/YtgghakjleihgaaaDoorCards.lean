/-
  DERIVED. GIVEN WITH THE SEED: THE CARDS: each row of YtgghakjleihgaaaDoorRows.lean that lists a variable, with what it lists TIED to the program's text (the seventh form; the later family's looks); each row that meets fmt, with fmt's text TOLD by the authors' own Lean function (tested against real Go, not proved from fmt's source: count such statements apart). THE CARD IS WHAT COUNTS. Prove the row's statement (the work); the ties are given (YtgghakjleihgaaaDoorTie.lean); close each card by the builder's one call (the guide's Derived/Test/ToyasCard.lean, 'card_holds'). Laid BY PROGRAM, IN A SANDBOX (cutbox-door.mjs). By AI agents, Wed Nov 11 2026. No macro, syntax, notation, axiom, sorry.
-/
import Derived.Test.YtgghakjleihgaaaDoorRows
import GoSem.ClaimSeven
namespace Go.Proofs.YtgghakjleihgaaaDoor
namespace Rows

/-- THE TIED CARD OF 'lodestonelaw26.RecordPuts'. -/
def recordPutsCard : Claim7 := { stood := { row := recordPutsRow, standIns := [], harness := (true, "54f71f16c097fd3a8c74c2fb349b541d0887230866acb2aa913792953fd4534f"), looks := false }, kinds := [], alts := [], laidByText := true, laidKinds := [.data, .pinned], laidTests := true, laidLooks := .later }
def RecordPutsCardSaid : Prop := Claim7.holds Tryd.pinned (.plain (OpenSpec.ofChange recordPutsSpec)) recordPutsCard

/-- THE TIED CARD OF 'lodestonelaw26.RecordKeys'. -/
def recordKeysCard : Claim7 := { stood := { row := recordKeysRow, standIns := [], harness := (true, "54f71f16c097fd3a8c74c2fb349b541d0887230866acb2aa913792953fd4534f"), looks := false }, kinds := [], alts := [], laidByText := true, laidKinds := [.data, .pinned], laidTests := true, laidLooks := .later }
def RecordKeysCardSaid : Prop := Claim7.holds Tryd.pinned (.plain (OpenSpec.ofChange recordKeysSpec)) recordKeysCard

/-- THE TIED CARD OF 'lodestonelaw26.RecordWith'. -/
def recordWithCard : Claim7 := { stood := { row := recordWithRow, standIns := [], harness := (true, "54f71f16c097fd3a8c74c2fb349b541d0887230866acb2aa913792953fd4534f"), looks := false }, kinds := [], alts := [], laidByText := true, laidKinds := [.data, .pinned], laidTests := true, laidLooks := .later }
def RecordWithCardSaid : Prop := Claim7.holds Tryd.pinned (.plain (OpenSpec.ofChange recordWithSpec)) recordWithCard

/-- THE SECOND FORM's CARD OF 'lodestonelaw26.RecordPuts'. -/
def recordPutsUptoCard : Claim7 := { stood := { row := recordPutsUptoRow, standIns := [], harness := (true, "54f71f16c097fd3a8c74c2fb349b541d0887230866acb2aa913792953fd4534f"), looks := false }, kinds := [], alts := [], laidByText := true, laidKinds := [.data, .pinned], laidTests := true, laidLooks := .later }
def RecordPutsUptoCardSaid : Prop := Claim7.holds Tryd.pinned (.plain (OpenSpec.upto recordPutsSpec)) recordPutsUptoCard

/-- THE SECOND FORM's CARD OF 'lodestonelaw26.RecordKeys'. -/
def recordKeysUptoCard : Claim7 := { stood := { row := recordKeysUptoRow, standIns := [], harness := (true, "54f71f16c097fd3a8c74c2fb349b541d0887230866acb2aa913792953fd4534f"), looks := false }, kinds := [], alts := [], laidByText := true, laidKinds := [.data, .pinned], laidTests := true, laidLooks := .later }
def RecordKeysUptoCardSaid : Prop := Claim7.holds Tryd.pinned (.plain (OpenSpec.upto recordKeysSpec)) recordKeysUptoCard

/-- THE SECOND FORM's CARD OF 'lodestonelaw26.RecordWith'. -/
def recordWithUptoCard : Claim7 := { stood := { row := recordWithUptoRow, standIns := [], harness := (true, "54f71f16c097fd3a8c74c2fb349b541d0887230866acb2aa913792953fd4534f"), looks := false }, kinds := [], alts := [], laidByText := true, laidKinds := [.data, .pinned], laidTests := true, laidLooks := .later }
def RecordWithUptoCardSaid : Prop := Claim7.holds Tryd.pinned (.plain (OpenSpec.upto recordWithSpec)) recordWithUptoCard
end Rows
end Go.Proofs.YtgghakjleihgaaaDoor
