/-
  DERIVED. GIVEN WITH THE SEED: THE CARDS: each row of YtlahimndndlbiaaDoorRows.lean that lists a variable, with what it lists TIED to the program's text (the seventh form; the later family's looks); each row that meets fmt, with fmt's text TOLD by the authors' own Lean function (tested against real Go, not proved from fmt's source: count such statements apart). THE CARD IS WHAT COUNTS. Prove the row's statement (the work); the ties are given (YtlahimndndlbiaaDoorTie.lean); close each card by the builder's one call (the guide's Derived/Test/ToyasCard.lean, 'card_holds'). Laid BY PROGRAM, IN A SANDBOX (cutbox-door.mjs). By AI agents, Wed Nov 11 2026. No macro, syntax, notation, axiom, sorry.
-/
import Derived.Test.YtlahimndndlbiaaDoorRows
import GoSem.ClaimSeven
namespace Go.Proofs.YtlahimndndlbiaaDoor
namespace Rows

/-- THE TIED CARD OF 'lodestonelaw15.WalChains'. -/
def walChainsCard : Claim7 := { stood := { row := walChainsRow, standIns := [], harness := (true, "0a3b5dad6545430c5629ee589fa6de43fb38c7d03de336fca74a1146557ce9e5"), looks := false }, kinds := [], alts := [], laidByText := true, laidKinds := [.data], laidTests := true, laidLooks := .later }
def WalChainsCardSaid : Prop := Claim7.holds Tryd.pinned (.plain (OpenSpec.ofChange walChainsSpec)) walChainsCard

/-- THE SECOND FORM's CARD OF 'lodestonelaw15.WalChains'. -/
def walChainsUptoCard : Claim7 := { stood := { row := walChainsUptoRow, standIns := [], harness := (true, "0a3b5dad6545430c5629ee589fa6de43fb38c7d03de336fca74a1146557ce9e5"), looks := false }, kinds := [], alts := [], laidByText := true, laidKinds := [.data], laidTests := true, laidLooks := .later }
def WalChainsUptoCardSaid : Prop := Claim7.holds Tryd.pinned (.plain (OpenSpec.upto walChainsSpec)) walChainsUptoCard
end Rows
end Go.Proofs.YtlahimndndlbiaaDoor
