/-
  No cell of these rows narrows 'for every input' (looked for: loops, veiled, ifaces, maps, wideKeys, modest, calm, conditions, laid).
  DERIVED. THE GIVEN ROWS OF THIS SEAT. 4 by the template 'for every input the law returns true; each argument reads behind the call as it read before'; 0 by the template 'total and deterministic' (their statements: YtlahimndndlbiaaTotals.lean).
  GIVEN WITH THE SEED: the statements are not yours to turn. If you find one false, say at which input.
  Laid BY PROGRAM, IN A SANDBOX (cutbox-rows.mjs): the forced cells as the released guide's own fill.sh prints them over the translation 3070a48d974edf50… (all of the seat's roots in one cut). By AI agents, Wed Nov 11 2026. No macro, syntax, notation, axiom, sorry.
-/
import Derived.Test.YtlahimndndlbiaaChecked
import GoSem.Claim
import GoSem.ClaimJoined
import GoSem.ClaimMapViews
import Derived.JoinedTies
import Derived.KernelRfl
namespace Go.Proofs.Ytlahimndndlbiaa
/- THE CELL 'sum', in the pinned program and in every row, IS THE sha256 OF THE DUMP (.gsa) THAT YtlahimndndlbiaaProg.lean LOADS. Nothing in Lean hashes anything: it is a label: what it is worth is what the hold of that sum in a sandbox is worth. -/
noncomputable def Try.pinned : Pinned := { name := "ytlahimndndlbiaa", sum := "3070a48d974edf502088404ea43c9ca85d4d50fd54451da4244f895978a43dcb", checked := Try.checked }
namespace Rows
def none {H : Type} : Left H := { results := [], args := [] }

/-- 'lodestonelaw15.WalPuts': WHATEVER THE INPUT: true; the input reads as it did. -/
def walPutsSpec : ChangeSpec := { name := "walPuts", fn := fun _ => fun
  | [d1, d2] => { results := [.lit (.bool true)], args := [d1, d2] }
  | _ => none }
def walPutsRow : OpenClaim := { program := "ytlahimndndlbiaa", sum := "3070a48d974edf502088404ea43c9ca85d4d50fd54451da4244f895978a43dcb", func := "lodestone/lodestonelaw15.WalPuts", spec := "walPuts", unfollowed := true, recurses := true, apart := false }
def WalPutsSaid : Prop := walPutsRow.holds Try.pinned (OpenSpec.ofChange walPutsSpec)

/-- ITS FALSE NEIGHBOUR: 'it returns false'. Refute it at one input. -/
def walPutsWrong : ChangeSpec := { name := "walPuts", fn := fun _ => fun
  | [d1, d2] => { results := [.lit (.bool false)], args := [d1, d2] }
  | _ => none }
def WalPutsWrongFalsely : Prop := walPutsRow.holds Try.pinned (OpenSpec.ofChange walPutsWrong)

/-- 'lodestonelaw15.WalMany': WHATEVER THE INPUT: true; the input reads as it did. -/
def walManySpec : ChangeSpec := { name := "walMany", fn := fun _ => fun
  | [d] => { results := [.lit (.bool true)], args := [d] }
  | _ => none }
def walManyRow : OpenClaim := { program := "ytlahimndndlbiaa", sum := "3070a48d974edf502088404ea43c9ca85d4d50fd54451da4244f895978a43dcb", func := "lodestone/lodestonelaw15.WalMany", spec := "walMany", unfollowed := true, recurses := true, apart := false }
def WalManySaid : Prop := walManyRow.holds Try.pinned (OpenSpec.ofChange walManySpec)

/-- ITS FALSE NEIGHBOUR: 'it returns false'. Refute it at one input. -/
def walManyWrong : ChangeSpec := { name := "walMany", fn := fun _ => fun
  | [d] => { results := [.lit (.bool false)], args := [d] }
  | _ => none }
def WalManyWrongFalsely : Prop := walManyRow.holds Try.pinned (OpenSpec.ofChange walManyWrong)

/-- 'lodestonelaw15.WalJoins': WHATEVER THE INPUT: true; the input reads as it did. -/
def walJoinsSpec : ChangeSpec := { name := "walJoins", fn := fun _ => fun
  | [d1, d2, d3] => { results := [.lit (.bool true)], args := [d1, d2, d3] }
  | _ => none }
def walJoinsRow : OpenClaim := { program := "ytlahimndndlbiaa", sum := "3070a48d974edf502088404ea43c9ca85d4d50fd54451da4244f895978a43dcb", func := "lodestone/lodestonelaw15.WalJoins", spec := "walJoins", unfollowed := true, recurses := true, apart := false }
def WalJoinsSaid : Prop := walJoinsRow.holds Try.pinned (OpenSpec.ofChange walJoinsSpec)

/-- ITS FALSE NEIGHBOUR: 'it returns false'. Refute it at one input. -/
def walJoinsWrong : ChangeSpec := { name := "walJoins", fn := fun _ => fun
  | [d1, d2, d3] => { results := [.lit (.bool false)], args := [d1, d2, d3] }
  | _ => none }
def WalJoinsWrongFalsely : Prop := walJoinsRow.holds Try.pinned (OpenSpec.ofChange walJoinsWrong)

/-- 'lodestonelaw15.WalSplits': WHATEVER THE INPUT: true; the input reads as it did. -/
def walSplitsSpec : ChangeSpec := { name := "walSplits", fn := fun _ => fun
  | [d1, d2] => { results := [.lit (.bool true)], args := [d1, d2] }
  | _ => none }
def walSplitsRow : OpenClaim := { program := "ytlahimndndlbiaa", sum := "3070a48d974edf502088404ea43c9ca85d4d50fd54451da4244f895978a43dcb", func := "lodestone/lodestonelaw15.WalSplits", spec := "walSplits", unfollowed := true, recurses := true, apart := false }
def WalSplitsSaid : Prop := walSplitsRow.holds Try.pinned (OpenSpec.ofChange walSplitsSpec)

/-- ITS FALSE NEIGHBOUR: 'it returns false'. Refute it at one input. -/
def walSplitsWrong : ChangeSpec := { name := "walSplits", fn := fun _ => fun
  | [d1, d2] => { results := [.lit (.bool false)], args := [d1, d2] }
  | _ => none }
def WalSplitsWrongFalsely : Prop := walSplitsRow.holds Try.pinned (OpenSpec.ofChange walSplitsWrong)

/- THE SECOND FORM. 'bulk': how many values and letters a reading holds, each counted each time it is reached (what is shared counts as often as it is met; a slice's spare places count too). A statement '..UptoSaid' is the law's where the arguments, and the package variables that the reading takes, are together of bulk at most 1048576: NARROWER than '..Said'. Prove '..Said' where nothing that the law and all that it calls make is longer than what came in: it says more and counts as full. Else prove '..UptoSaid'. A law counts once. -/
mutual
def uptoBulk {H : Type} : DataW H → Nat
  | .lit (.string bytes) => bytes.length + 1
  | .lit _ => 1
  | .nil => 1
  | .ptr d => uptoBulk d + 1
  | .slice elems spare => uptoBulkAll elems + uptoBulkAll spare + 1
  | .agg parts => uptoBulkAll parts + 1
  | .iface _ d => uptoBulk d + 1
  | .map entries => uptoBulkEntries entries + 1
  | .held _ => 1
def uptoBulkAll {H : Type} : List (DataW H) → Nat
  | [] => 0
  | d :: r => uptoBulk d + uptoBulkAll r
def uptoBulkEntries {H : Type} : List (Lit × DataW H) → Nat
  | [] => 0
  | x :: r => uptoBulkEntry x + uptoBulkEntries r
def uptoBulkEntry {H : Type} : Lit × DataW H → Nat
  | (.string bytes, d) => bytes.length + uptoBulk d + 1
  | (_, d) => uptoBulk d + 1
 end
def uptoSmall : (H : Type) → List (DataW H) → Bool := fun _ ds => decide (uptoBulkAll ds ≤ 1048576)
def OpenSpec.upto (s : _root_.Go.ChangeSpec) : _root_.Go.OpenSpec := { _root_.Go.OpenSpec.ofChange s with cond := some uptoSmall }

/-- 'lodestonelaw15.WalPuts', WHERE WHAT IT READS IS OF BULK AT MOST 1048576: true; the input reads as it did. -/
def walPutsUptoRow : OpenClaim := { program := "ytlahimndndlbiaa", sum := "3070a48d974edf502088404ea43c9ca85d4d50fd54451da4244f895978a43dcb", func := "lodestone/lodestonelaw15.WalPuts", spec := "walPuts", unfollowed := true, recurses := true, apart := false, narrowed := true }
def WalPutsUptoSaid : Prop := walPutsUptoRow.holds Try.pinned (OpenSpec.upto walPutsSpec)

/-- 'lodestonelaw15.WalMany', WHERE WHAT IT READS IS OF BULK AT MOST 1048576: true; the input reads as it did. -/
def walManyUptoRow : OpenClaim := { program := "ytlahimndndlbiaa", sum := "3070a48d974edf502088404ea43c9ca85d4d50fd54451da4244f895978a43dcb", func := "lodestone/lodestonelaw15.WalMany", spec := "walMany", unfollowed := true, recurses := true, apart := false, narrowed := true }
def WalManyUptoSaid : Prop := walManyUptoRow.holds Try.pinned (OpenSpec.upto walManySpec)

/-- 'lodestonelaw15.WalJoins', WHERE WHAT IT READS IS OF BULK AT MOST 1048576: true; the input reads as it did. -/
def walJoinsUptoRow : OpenClaim := { program := "ytlahimndndlbiaa", sum := "3070a48d974edf502088404ea43c9ca85d4d50fd54451da4244f895978a43dcb", func := "lodestone/lodestonelaw15.WalJoins", spec := "walJoins", unfollowed := true, recurses := true, apart := false, narrowed := true }
def WalJoinsUptoSaid : Prop := walJoinsUptoRow.holds Try.pinned (OpenSpec.upto walJoinsSpec)

/-- 'lodestonelaw15.WalSplits', WHERE WHAT IT READS IS OF BULK AT MOST 1048576: true; the input reads as it did. -/
def walSplitsUptoRow : OpenClaim := { program := "ytlahimndndlbiaa", sum := "3070a48d974edf502088404ea43c9ca85d4d50fd54451da4244f895978a43dcb", func := "lodestone/lodestonelaw15.WalSplits", spec := "walSplits", unfollowed := true, recurses := true, apart := false, narrowed := true }
def WalSplitsUptoSaid : Prop := walSplitsUptoRow.holds Try.pinned (OpenSpec.upto walSplitsSpec)

end Rows
end Go.Proofs.Ytlahimndndlbiaa
