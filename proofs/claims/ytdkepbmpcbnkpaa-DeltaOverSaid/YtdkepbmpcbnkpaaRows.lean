/-
  No cell of these rows narrows 'for every input' (looked for: loops, veiled, ifaces, maps, wideKeys, modest, calm, conditions, laid).
  DERIVED. THE GIVEN ROWS OF THIS SEAT. 3 by the template 'for every input the law returns true; each argument reads behind the call as it read before'; 0 by the template 'total and deterministic' (their statements: YtdkepbmpcbnkpaaTotals.lean).
  GIVEN WITH THE SEED: the statements are not yours to turn. If you find one false, say at which input.
  Laid BY PROGRAM, IN A SANDBOX (cutbox-rows.mjs): the forced cells as the released guide's own fill.sh prints them over the translation afb1e37c8fe06580… (all of the seat's roots in one cut). By AI agents, Wed Nov 11 2026. No macro, syntax, notation, axiom, sorry.
-/
import Derived.Test.YtdkepbmpcbnkpaaChecked
import GoSem.Claim
import GoSem.ClaimJoined
import GoSem.ClaimMapViews
import Derived.JoinedTies
import Derived.KernelRfl
namespace Go.Proofs.Ytdkepbmpcbnkpaa
/- THE CELL 'sum', in the pinned program and in every row, IS THE sha256 OF THE DUMP (.gsa) THAT YtdkepbmpcbnkpaaProg.lean LOADS. Nothing in Lean hashes anything: it is a label: what it is worth is what the hold of that sum in a sandbox is worth. -/
noncomputable def Try.pinned : Pinned := { name := "ytdkepbmpcbnkpaa", sum := "afb1e37c8fe06580a4c90944ab891d3627b2b9d6c8e1117fe1ed376edbc26853", checked := Try.checked }
namespace Rows
def none {H : Type} : Left H := { results := [], args := [] }

/-- 'lodestonelaw21.DeltaPlays': WHATEVER THE INPUT: true; the input reads as it did. -/
def deltaPlaysSpec : ChangeSpec := { name := "deltaPlays", fn := fun _ => fun
  | [d1, d2, d3] => { results := [.lit (.bool true)], args := [d1, d2, d3] }
  | _ => none }
def deltaPlaysRow : OpenClaim := { program := "ytdkepbmpcbnkpaa", sum := "afb1e37c8fe06580a4c90944ab891d3627b2b9d6c8e1117fe1ed376edbc26853", func := "lodestone/lodestonelaw21.DeltaPlays", spec := "deltaPlays", inPlace := ["slices.overlaps[lodestone/api.Change]"], unfollowed := true, recurses := true, apart := false }
def DeltaPlaysSaid : Prop := deltaPlaysRow.holds Try.pinned (OpenSpec.ofChange deltaPlaysSpec)

/-- ITS FALSE NEIGHBOUR: 'it returns false'. Refute it at one input. -/
def deltaPlaysWrong : ChangeSpec := { name := "deltaPlays", fn := fun _ => fun
  | [d1, d2, d3] => { results := [.lit (.bool false)], args := [d1, d2, d3] }
  | _ => none }
def DeltaPlaysWrongFalsely : Prop := deltaPlaysRow.holds Try.pinned (OpenSpec.ofChange deltaPlaysWrong)

/-- 'lodestonelaw21.DeltaClones': WHATEVER THE INPUT: true; the input reads as it did. -/
def deltaClonesSpec : ChangeSpec := { name := "deltaClones", fn := fun _ => fun
  | [d1, d2] => { results := [.lit (.bool true)], args := [d1, d2] }
  | _ => none }
def deltaClonesRow : OpenClaim := { program := "ytdkepbmpcbnkpaa", sum := "afb1e37c8fe06580a4c90944ab891d3627b2b9d6c8e1117fe1ed376edbc26853", func := "lodestone/lodestonelaw21.DeltaClones", spec := "deltaClones", inPlace := ["slices.overlaps[lodestone/api.Change]"], unfollowed := true, recurses := true, apart := false }
def DeltaClonesSaid : Prop := deltaClonesRow.holds Try.pinned (OpenSpec.ofChange deltaClonesSpec)

/-- ITS FALSE NEIGHBOUR: 'it returns false'. Refute it at one input. -/
def deltaClonesWrong : ChangeSpec := { name := "deltaClones", fn := fun _ => fun
  | [d1, d2] => { results := [.lit (.bool false)], args := [d1, d2] }
  | _ => none }
def DeltaClonesWrongFalsely : Prop := deltaClonesRow.holds Try.pinned (OpenSpec.ofChange deltaClonesWrong)

/-- 'lodestonelaw21.DeltaOver': WHATEVER THE INPUT: true; the input reads as it did. -/
def deltaOverSpec : ChangeSpec := { name := "deltaOver", fn := fun _ => fun
  | [d1, d2, d3] => { results := [.lit (.bool true)], args := [d1, d2, d3] }
  | _ => none }
def deltaOverRow : OpenClaim := { program := "ytdkepbmpcbnkpaa", sum := "afb1e37c8fe06580a4c90944ab891d3627b2b9d6c8e1117fe1ed376edbc26853", func := "lodestone/lodestonelaw21.DeltaOver", spec := "deltaOver", inPlace := ["slices.overlaps[lodestone/api.Change]"], unfollowed := true, recurses := true, apart := false }
def DeltaOverSaid : Prop := deltaOverRow.holds Try.pinned (OpenSpec.ofChange deltaOverSpec)

/-- ITS FALSE NEIGHBOUR: 'it returns false'. Refute it at one input. -/
def deltaOverWrong : ChangeSpec := { name := "deltaOver", fn := fun _ => fun
  | [d1, d2, d3] => { results := [.lit (.bool false)], args := [d1, d2, d3] }
  | _ => none }
def DeltaOverWrongFalsely : Prop := deltaOverRow.holds Try.pinned (OpenSpec.ofChange deltaOverWrong)

/- THE SECOND FORM. 'bulk': how many values and letters a reading holds, each counted each time it is reached (what is shared counts as often as it is met; a slice's spare places count too). A statement '..UptoSaid' is the law's where the arguments, and the package variables that the reading takes, are together of bulk at most 1048576: NARROWER than '..Said'. Prove '..Said' where nothing that the law and all that it calls make is longer than what came in: it says more and counts as full. Else prove '..UptoSaid'. A law counts once. -/
mutual
def uptoBulk {H : Type} : DataW H → Nat
  | .lit (.string bytes) => bytes.length + 1
  | .lit _ => 1
  | .nil => 1
  | .ptr d => uptoBulk d + 1
  | .slice elems spare => uptoBulkAll elems + uptoBulkAll spare + 1
  | .agg parts => uptoBulkAll parts + 1
  | .iface _ d => uptoBulk d + 1
  | .map entries => uptoBulkEntries entries + 1
  | .held _ => 1
def uptoBulkAll {H : Type} : List (DataW H) → Nat
  | [] => 0
  | d :: r => uptoBulk d + uptoBulkAll r
def uptoBulkEntries {H : Type} : List (Lit × DataW H) → Nat
  | [] => 0
  | x :: r => uptoBulkEntry x + uptoBulkEntries r
def uptoBulkEntry {H : Type} : Lit × DataW H → Nat
  | (.string bytes, d) => bytes.length + uptoBulk d + 1
  | (_, d) => uptoBulk d + 1
 end
def uptoSmall : (H : Type) → List (DataW H) → Bool := fun _ ds => decide (uptoBulkAll ds ≤ 1048576)
def OpenSpec.upto (s : _root_.Go.ChangeSpec) : _root_.Go.OpenSpec := { _root_.Go.OpenSpec.ofChange s with cond := some uptoSmall }

/-- 'lodestonelaw21.DeltaPlays', WHERE WHAT IT READS IS OF BULK AT MOST 1048576: true; the input reads as it did. -/
def deltaPlaysUptoRow : OpenClaim := { program := "ytdkepbmpcbnkpaa", sum := "afb1e37c8fe06580a4c90944ab891d3627b2b9d6c8e1117fe1ed376edbc26853", func := "lodestone/lodestonelaw21.DeltaPlays", spec := "deltaPlays", inPlace := ["slices.overlaps[lodestone/api.Change]"], unfollowed := true, recurses := true, apart := false, narrowed := true }
def DeltaPlaysUptoSaid : Prop := deltaPlaysUptoRow.holds Try.pinned (OpenSpec.upto deltaPlaysSpec)

/-- 'lodestonelaw21.DeltaClones', WHERE WHAT IT READS IS OF BULK AT MOST 1048576: true; the input reads as it did. -/
def deltaClonesUptoRow : OpenClaim := { program := "ytdkepbmpcbnkpaa", sum := "afb1e37c8fe06580a4c90944ab891d3627b2b9d6c8e1117fe1ed376edbc26853", func := "lodestone/lodestonelaw21.DeltaClones", spec := "deltaClones", inPlace := ["slices.overlaps[lodestone/api.Change]"], unfollowed := true, recurses := true, apart := false, narrowed := true }
def DeltaClonesUptoSaid : Prop := deltaClonesUptoRow.holds Try.pinned (OpenSpec.upto deltaClonesSpec)

/-- 'lodestonelaw21.DeltaOver', WHERE WHAT IT READS IS OF BULK AT MOST 1048576: true; the input reads as it did. -/
def deltaOverUptoRow : OpenClaim := { program := "ytdkepbmpcbnkpaa", sum := "afb1e37c8fe06580a4c90944ab891d3627b2b9d6c8e1117fe1ed376edbc26853", func := "lodestone/lodestonelaw21.DeltaOver", spec := "deltaOver", inPlace := ["slices.overlaps[lodestone/api.Change]"], unfollowed := true, recurses := true, apart := false, narrowed := true }
def DeltaOverUptoSaid : Prop := deltaOverUptoRow.holds Try.pinned (OpenSpec.upto deltaOverSpec)

end Rows
end Go.Proofs.Ytdkepbmpcbnkpaa
