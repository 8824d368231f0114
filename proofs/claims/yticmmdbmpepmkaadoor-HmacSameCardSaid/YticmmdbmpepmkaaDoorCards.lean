/-
  DERIVED. GIVEN WITH THE SEED: THE CARDS: each row of YticmmdbmpepmkaaDoorRows.lean that lists a variable, with what it lists TIED to the program's text (the seventh form; the later family's looks); each row that meets fmt, with fmt's text TOLD by the authors' own Lean function (tested against real Go, not proved from fmt's source: count such statements apart). THE CARD IS WHAT COUNTS. Prove the row's statement (the work); the ties are given (YticmmdbmpepmkaaDoorTie.lean); close each card by the builder's one call (the guide's Derived/Test/ToyasCard.lean, 'card_holds'). Laid BY PROGRAM, IN A SANDBOX (cutbox-door.mjs). By AI agents, Wed Nov 11 2026. No macro, syntax, notation, axiom, sorry.
-/
import Derived.Test.YticmmdbmpepmkaaDoorRows
import GoSem.ClaimSeven
namespace Go.Proofs.YticmmdbmpepmkaaDoor
namespace Rows

/-- THE TIED CARD OF 'lodestonelaw02.HmacTags'. -/
def hmacTagsCard : Claim7 := { stood := { row := hmacTagsRow, standIns := [], harness := (true, "7678adcacf061f8bebba8cb1945f44200cb977b24fe8506ca7b6e454d4d90968"), looks := false }, kinds := [], alts := [], laidByText := true, laidKinds := [.data], laidTests := true, laidLooks := .later }
def HmacTagsCardSaid : Prop := Claim7.holds Tryd.pinned (.plain (OpenSpec.ofChange hmacTagsSpec)) hmacTagsCard

/-- THE TIED CARD OF 'lodestonelaw02.HmacSame'. -/
def hmacSameCard : Claim7 := { stood := { row := hmacSameRow, standIns := [], harness := (true, "7678adcacf061f8bebba8cb1945f44200cb977b24fe8506ca7b6e454d4d90968"), looks := false }, kinds := [], alts := [], laidByText := true, laidKinds := [.data], laidTests := true, laidLooks := .later }
def HmacSameCardSaid : Prop := Claim7.holds Tryd.pinned (.plain (OpenSpec.ofChange hmacSameSpec)) hmacSameCard

/-- THE TIED CARD OF 'lodestonelaw02.HmacExpands'. -/
def hmacExpandsCard : Claim7 := { stood := { row := hmacExpandsRow, standIns := [], harness := (true, "7678adcacf061f8bebba8cb1945f44200cb977b24fe8506ca7b6e454d4d90968"), looks := false }, kinds := [], alts := [], laidByText := true, laidKinds := [.data], laidTests := true, laidLooks := .later }
def HmacExpandsCardSaid : Prop := Claim7.holds Tryd.pinned (.plain (OpenSpec.ofChange hmacExpandsSpec)) hmacExpandsCard

/-- THE TIED CARD OF 'lodestonelaw02.HmacMost'. -/
def hmacMostCard : Claim7 := { stood := { row := hmacMostRow, standIns := [], harness := (true, "7678adcacf061f8bebba8cb1945f44200cb977b24fe8506ca7b6e454d4d90968"), looks := false }, kinds := [], alts := [], laidByText := true, laidKinds := [.data], laidTests := true, laidLooks := .later }
def HmacMostCardSaid : Prop := Claim7.holds Tryd.pinned (.plain (OpenSpec.ofChange hmacMostSpec)) hmacMostCard

/-- THE SECOND FORM's CARD OF 'lodestonelaw02.HmacTags'. -/
def hmacTagsUptoCard : Claim7 := { stood := { row := hmacTagsUptoRow, standIns := [], harness := (true, "7678adcacf061f8bebba8cb1945f44200cb977b24fe8506ca7b6e454d4d90968"), looks := false }, kinds := [], alts := [], laidByText := true, laidKinds := [.data], laidTests := true, laidLooks := .later }
def HmacTagsUptoCardSaid : Prop := Claim7.holds Tryd.pinned (.plain (OpenSpec.upto hmacTagsSpec)) hmacTagsUptoCard

/-- THE SECOND FORM's CARD OF 'lodestonelaw02.HmacSame'. -/
def hmacSameUptoCard : Claim7 := { stood := { row := hmacSameUptoRow, standIns := [], harness := (true, "7678adcacf061f8bebba8cb1945f44200cb977b24fe8506ca7b6e454d4d90968"), looks := false }, kinds := [], alts := [], laidByText := true, laidKinds := [.data], laidTests := true, laidLooks := .later }
def HmacSameUptoCardSaid : Prop := Claim7.holds Tryd.pinned (.plain (OpenSpec.upto hmacSameSpec)) hmacSameUptoCard

/-- THE SECOND FORM's CARD OF 'lodestonelaw02.HmacExpands'. -/
def hmacExpandsUptoCard : Claim7 := { stood := { row := hmacExpandsUptoRow, standIns := [], harness := (true, "7678adcacf061f8bebba8cb1945f44200cb977b24fe8506ca7b6e454d4d90968"), looks := false }, kinds := [], alts := [], laidByText := true, laidKinds := [.data], laidTests := true, laidLooks := .later }
def HmacExpandsUptoCardSaid : Prop := Claim7.holds Tryd.pinned (.plain (OpenSpec.upto hmacExpandsSpec)) hmacExpandsUptoCard

/-- THE SECOND FORM's CARD OF 'lodestonelaw02.HmacMost'. -/
def hmacMostUptoCard : Claim7 := { stood := { row := hmacMostUptoRow, standIns := [], harness := (true, "7678adcacf061f8bebba8cb1945f44200cb977b24fe8506ca7b6e454d4d90968"), looks := false }, kinds := [], alts := [], laidByText := true, laidKinds := [.data], laidTests := true, laidLooks := .later }
def HmacMostUptoCardSaid : Prop := Claim7.holds Tryd.pinned (.plain (OpenSpec.upto hmacMostSpec)) hmacMostUptoCard
end Rows
end Go.Proofs.YticmmdbmpepmkaaDoor
