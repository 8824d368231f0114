-- Written by a program of this session's (the kit's print, with additions of my own). Not trusted: Lean checks it.
import Derived.Test.YtgghakjleihgaaaDoorPRecordKeysx0
import Derived.Test.YtgghakjleihgaaaDoorPRecordKeysx9
import Derived.Test.YtgghakjleihgaaaDoorXB
namespace Go.Proofs.YtgghakjleihgaaaDoor.PRecordKeys
open Go.RowKit Go.Proofs.YtgghakjleihgaaaDoorW.PrintWords Go.Proofs.YtgghakjleihgaaaDoorW.PrintLast Go.Proofs.YtgghakjleihgaaaDoorW.PrintMore
open Go.Proofs.YtgghakjleihgaaaDoorW.PrintWords renaming blk_drewN → zN, blk_drew → zD, blk_alloc → zA, blk_cell → zC, blk_frozen → zF, below_set → zS, below_alloc → zL, below_drew1 → zW, pw_below_drewN → zP, blk_below → zB, keep_drewN → zK
open Go.Proofs.YtgghakjleihgaaaDoorW.PrintWords.Aside0 renaming mk → zM
open List renaming setIfInBounds_toArray → zT, set_cons_zero → zZ, set_cons_succ → zU, length_drop → zV, length_take → zX, map_toArray → zY
attribute [local go_sem] max2_int min2_int max_two min_two max_three min_three max_four min_four   -- for this text's walks alone
set_option linter.unusedVariables false
set_option linter.unusedSimpArgs false
abbrev zc0 : Array Bool := #[false, false, false, false, false, false, false, false, false, false, false, false, false, false, false, false, false, false, false, false, false, false, false, false, false, false, false, false, false, false, false, false, false, false, false, false, false, false, false, false, false, false, false, false, false, false, false, false, false, false, false, false, false, false]
abbrev zc1 : Array Bool := #[true, false, false, false, false, false, false, false, false, false, false, false, false, false, false, false, false, false, false, false, false, false, false, false, false, false, false, false, false, false, false, false, false, false, false, false, false, false, false, false, false, false, false, false, false, false, false, false, false, false, false, false, false, false]
abbrev zc2 : Array Bool := #[true, true, false, false, false, false, false, false, false, false, false, false, false, false, false, false, false, false, false, false, false, false, false, false, false, false, false, false, false, false, false, false, false, false, false, false, false, false, false, false, false, false, false, false, false, false, false, false, false, false, false, false, false, false]
abbrev zc3 : Array Bool := #[true, true, true, false, false, false, false, false, false, false, false, false, false, false, false, false, false, false, false, false, false, false, false, false, false, false, false, false, false, false, false, false, false, false, false, false, false, false, false, false, false, false, false, false, false, false, false, false, false, false, false, false, false, false]
abbrev zc4 : Array Bool := #[true, true, true, true, false, false, false, false, false, false, false, false, false, false, false, false, false, false, false, false, false, false, false, false, false, false, false, false, false, false, false, false, false, false, false, false, false, false, false, false, false, false, false, false, false, false, false, false, false, false, false, false, false, false]
abbrev zc5 : Array Bool := #[true, true, true, true, false, false, true, false, false, false, false, false, false, false, false, false, false, false, false, false, false, false, false, false, false, false, false, false, false, false, false, false, false, false, false, false, false, false, false, false, false, false, false, false, false, false, false, false, false, false, false, false, false, false]
abbrev zc6 : Array Bool := #[true, true, true, true, false, false, true, true, false, false, false, false, false, false, false, false, false, false, false, false, false, false, false, false, false, false, false, false, false, false, false, false, false, false, false, false, false, false, false, false, false, false, false, false, false, false, false, false, false, false, false, false, false, false]
abbrev zc7 : Array Bool := #[true, true, true, true, true, false, true, true, false, false, false, false, false, false, false, false, false, false, false, false, false, false, false, false, false, false, false, false, false, false, false, false, false, false, false, false, false, false, false, false, false, false, false, false, false, false, false, false, false, false, false, false, false, false]
abbrev zc8 : Array Bool := #[true, true, true, true, true, false, true, true, true, false, false, false, false, false, false, false, false, false, false, false, false, false, false, false, false, false, false, false, false, false, false, false, false, false, false, false, false, false, false, false, false, false, false, false, false, false, false, false, false, false, false, false, false, false]
abbrev zc9 : Array Bool := #[true, true, true, true, true, true, true, true, true, false, false, false, false, false, false, false, false, false, false, false, false, false, false, false, false, false, false, false, false, false, false, false, false, false, false, false, false, false, false, false, false, false, false, false, false, false, false, false, false, false, false, false, false, false]
abbrev zc10 : Array Bool := #[true, true, true, true, true, true, true, true, true, true, false, false, false, false, false, false, false, false, false, false, false, false, false, false, false, false, false, false, false, false, false, false, false, false, false, false, false, false, false, false, false, false, false, false, false, false, false, false, false, false, false, false, false, false]
abbrev zc11 : Array Bool := #[true, true, true, true, true, true, true, true, true, true, true, false, false, false, false, false, false, false, false, false, false, false, false, false, false, false, false, false, false, false, false, false, false, false, false, false, false, false, false, false, false, false, false, false, false, false, false, false, false, false, false, false, false, false]
abbrev zc12 : Array Bool := #[true, true, true, true, true, true, true, true, true, true, true, true, false, false, false, false, false, false, false, false, false, false, false, false, false, false, false, false, false, false, false, false, false, false, false, false, false, false, false, false, false, false, false, false, false, false, false, false, false, false, false, false, false, false]
abbrev zc13 : Array Bool := #[true, true, true, true, true, true, true, true, true, true, true, true, true, false, false, false, false, false, false, false, false, false, false, false, false, false, false, false, false, false, false, false, false, false, false, false, false, false, false, false, false, false, false, false, false, false, false, false, false, false, false, false, false, false]
abbrev zc14 : Array Bool := #[true, true, true, true, true, true, true, true, true, true, true, true, true, true, false, false, false, false, false, false, false, false, false, false, false, false, false, false, false, false, false, false, false, false, false, false, false, false, false, false, false, false, false, false, false, false, false, false, false, false, false, false, false, false]
abbrev zc15 : Array Bool := #[true, true, true, true, true, true, true, true, true, true, true, true, true, true, true, false, false, false, false, false, false, false, false, false, false, false, false, false, false, false, false, false, false, false, false, false, false, false, false, false, false, false, false, false, false, false, false, false, false, false, false, false, false, false]
abbrev zc16 : Array Bool := #[true, true, true, true, true, true, true, true, true, true, true, true, true, true, true, false, true, false, false, false, false, false, false, false, false, false, false, false, false, false, false, false, false, false, false, false, false, false, false, false, false, false, false, false, false, false, false, false, false, false, false, false, false, false]
abbrev zc17 : Array Bool := #[true, true, true, true, true, true, true, true, true, true, true, true, true, true, true, false, true, true, false, false, false, false, false, false, false, false, false, false, false, false, false, false, false, false, false, false, false, false, false, false, false, false, false, false, false, false, false, false, false, false, false, false, false, false]
abbrev zc18 : Array Bool := #[true, true, true, true, true, true, true, true, true, true, true, true, true, true, true, false, true, true, true, false, false, false, false, false, false, false, false, false, false, false, false, false, false, false, false, false, false, false, false, false, false, false, false, false, false, false, false, false, false, false, false, false, false, false]
abbrev zc19 : Array Bool := #[true, true, true, true, true, true, true, true, true, true, true, true, true, true, true, false, true, true, true, false, true, false, false, false, false, false, false, false, false, false, false, false, false, false, false, false, false, false, false, false, false, false, false, false, false, false, false, false, false, false, false, false, false, false]
abbrev zc20 : Array Bool := #[true, true, true, true, true, true, true, true, true, true, true, true, true, true, true, true, true, true, true, false, true, false, false, false, false, false, false, false, false, false, false, false, false, false, false, false, false, false, false, false, false, false, false, false, false, false, false, false, false, false, false, false, false, false]
abbrev zc21 : Array Bool := #[true, true, true, true, true, true, true, true, true, true, true, true, true, true, true, true, true, true, true, true, true, false, false, false, false, false, false, false, false, false, false, false, false, false, false, false, false, false, false, false, false, false, false, false, false, false, false, false, false, false, false, false, false, false]
abbrev zc22 : Array Bool := #[true, true, true, true, true, true, true, true, true, true, true, true, true, true, true, true, true, true, true, true, true, true, false, false, false, false, false, false, false, false, false, false, false, false, false, false, false, false, false, false, false, false, false, false, false, false, false, false, false, false, false, false, false, false]
abbrev zc23 : Array Bool := #[true, true, true, true, true, true, true, true, true, true, true, true, true, true, true, true, true, true, true, true, true, true, true, false, false, false, false, false, false, false, false, false, false, false, false, false, false, false, false, false, false, false, false, false, false, false, false, false, false, false, false, false, false, false]
abbrev zc24 : Array Bool := #[true, true, true, true, true, true, true, true, true, true, true, true, true, true, true, true, true, true, true, true, true, true, true, true, false, false, false, false, false, false, false, false, false, false, false, false, false, false, false, false, false, false, false, false, false, false, false, false, false, false, false, false, false, false]
abbrev zc25 : Array Bool := #[true, true, true, true, true, true, true, true, true, true, true, true, true, true, true, true, true, true, true, true, true, true, true, true, true, false, false, false, false, false, false, false, false, false, false, false, false, false, false, false, false, false, false, false, false, false, false, false, false, false, false, false, false, false]
abbrev zc26 : Array Bool := #[true, true, true, true, true, true, true, true, true, true, true, true, true, true, true, true, true, true, true, true, true, true, true, true, true, true, false, false, false, false, false, false, false, false, false, false, false, false, false, false, false, false, false, false, false, false, false, false, false, false, false, false, false, false]
abbrev zc27 : Array Bool := #[true, true, true, true, true, true, true, true, true, true, true, true, true, true, true, true, true, true, true, true, true, true, true, true, true, true, false, true, false, false, false, false, false, false, false, false, false, false, false, false, false, false, false, false, false, false, false, false, false, false, false, false, false, false]
abbrev zc28 : Array Bool := #[true, true, true, true, true, true, true, true, true, true, true, true, true, true, true, true, true, true, true, true, true, true, true, true, true, true, false, true, false, true, false, false, false, false, false, false, false, false, false, false, false, false, false, false, false, false, false, false, false, false, false, false, false, false]
abbrev zc29 : Array Bool := #[true, true, true, true, true, true, true, true, true, true, true, true, true, true, true, true, true, true, true, true, true, true, true, true, true, true, false, true, false, true, true, false, false, false, false, false, false, false, false, false, false, false, false, false, false, false, false, false, false, false, false, false, false, false]
abbrev zc30 : Array Bool := #[true, true, true, true, true, true, true, true, true, true, true, true, true, true, true, true, true, true, true, true, true, true, true, true, true, true, false, true, false, true, true, true, false, false, false, false, false, false, false, false, false, false, false, false, false, false, false, false, false, false, false, false, false, false]
abbrev zc31 : Array Bool := #[true, true, true, true, true, true, true, true, true, true, true, true, true, true, true, true, true, true, true, true, true, true, true, true, true, true, true, true, false, true, true, true, false, false, false, false, false, false, false, false, false, false, false, false, false, false, false, false, false, false, false, false, false, false]
abbrev zc32 : Array Bool := #[true, true, true, true, true, true, true, true, true, true, true, true, true, true, true, true, true, true, true, true, true, true, true, true, true, true, true, true, true, true, true, true, false, false, false, false, false, false, false, false, false, false, false, false, false, false, false, false, false, false, false, false, false, false]
abbrev zc33 : Array Bool := #[true, true, true, true, true, true, true, true, true, true, true, true, true, true, true, true, true, true, true, true, true, true, true, true, true, true, true, true, true, true, true, true, true, false, false, false, false, false, false, false, false, false, false, false, false, false, false, false, false, false, false, false, false, false]
abbrev zc34 : Array Bool := #[true, true, true, true, true, true, true, true, true, true, true, true, true, true, true, true, true, true, true, true, true, true, true, true, true, true, true, true, true, true, true, true, true, true, false, false, false, false, false, false, false, false, false, false, false, false, false, false, false, false, false, false, false, false]
abbrev zc35 : Array Bool := #[true, true, true, true, true, true, true, true, true, true, true, true, true, true, true, true, true, true, true, true, true, true, true, true, true, true, true, true, true, true, true, true, true, true, true, false, false, false, false, false, false, false, false, false, false, false, false, false, false, false, false, false, false, false]
abbrev zc36 : Array Bool := #[true, true, true, true, true, true, true, true, true, true, true, true, true, true, true, true, true, true, true, true, true, true, true, true, true, true, true, true, true, true, true, true, true, true, true, true, false, false, false, false, false, false, false, false, false, false, false, false, false, false, false, false, false, false]
abbrev zc37 : Array Bool := #[true, true, true, true, true, true, true, true, true, true, true, true, true, true, true, true, true, true, true, true, true, true, true, true, true, true, true, true, true, true, true, true, true, true, true, true, true, false, false, false, false, false, false, false, false, false, false, false, false, false, false, false, false, false]
abbrev zc38 : Array Bool := #[true, true, true, true, true, true, true, true, true, true, true, true, true, true, true, true, true, true, true, true, true, true, true, true, true, true, true, true, true, true, true, true, true, true, true, true, true, true, false, false, false, false, false, false, false, false, false, false, false, false, false, false, false, false]
abbrev zc39 : Array Bool := #[true, true, true, true, true, true, true, true, true, true, true, true, true, true, true, true, true, true, true, true, true, true, true, true, true, true, true, true, true, true, true, true, true, true, true, true, true, true, true, false, false, false, false, false, false, false, false, false, false, false, false, false, false, false]
abbrev zc40 : Array Bool := #[true, true, true, true, true, true, true, true, true, true, true, true, true, true, true, true, true, true, true, true, true, true, true, true, true, true, true, true, true, true, true, true, true, true, true, true, true, true, true, false, true, false, false, false, false, false, false, false, false, false, false, false, false, false]
abbrev zc41 : Array Bool := #[true, true, true, true, true, true, true, true, true, true, true, true, true, true, true, true, true, true, true, true, true, true, true, true, true, true, true, true, true, true, true, true, true, true, true, true, true, true, true, false, true, true, false, false, false, false, false, false, false, false, false, false, false, false]
abbrev zc42 : Array Bool := #[true, true, true, true, true, true, true, true, true, true, true, true, true, true, true, true, true, true, true, true, true, true, true, true, true, true, true, true, true, true, true, true, true, true, true, true, true, true, true, false, true, true, false, true, false, false, false, false, false, false, false, false, false, false]
abbrev zc43 : Array Bool := #[true, true, true, true, true, true, true, true, true, true, true, true, true, true, true, true, true, true, true, true, true, true, true, true, true, true, true, true, true, true, true, true, true, true, true, true, true, true, true, false, true, true, false, true, true, false, false, false, false, false, false, false, false, false]
abbrev zc44 : Array Bool := #[true, true, true, true, true, true, true, true, true, true, true, true, true, true, true, true, true, true, true, true, true, true, true, true, true, true, true, true, true, true, true, true, true, true, true, true, true, true, true, false, true, true, false, true, true, true, false, false, false, false, false, false, false, false]
abbrev zc45 : Array Bool := #[true, true, true, true, true, true, true, true, true, true, true, true, true, true, true, true, true, true, true, true, true, true, true, true, true, true, true, true, true, true, true, true, true, true, true, true, true, true, true, false, true, true, false, true, true, true, false, false, true, false, false, false, false, false]
abbrev zc46 : Array Bool := #[true, true, true, true, true, true, true, true, true, true, true, true, true, true, true, true, true, true, true, true, true, true, true, true, true, true, true, true, true, true, true, true, true, true, true, true, true, true, true, true, true, true, false, true, true, true, false, false, true, false, false, false, false, false]
abbrev zc47 : Array Bool := #[true, true, true, true, true, true, true, true, true, true, true, true, true, true, true, true, true, true, true, true, true, true, true, true, true, true, true, true, true, true, true, true, true, true, true, true, true, true, true, true, true, true, true, true, true, true, false, false, true, false, false, false, false, false]
abbrev zc48 : Array Bool := #[true, true, true, true, true, true, true, true, true, true, true, true, true, true, true, true, true, true, true, true, true, true, true, true, true, true, true, true, true, true, true, true, true, true, true, true, true, true, true, true, true, true, true, true, true, true, true, false, true, false, false, false, false, false]
abbrev zc49 : Array Bool := #[true, true, true, true, true, true, true, true, true, true, true, true, true, true, true, true, true, true, true, true, true, true, true, true, true, true, true, true, true, true, true, true, true, true, true, true, true, true, true, true, true, true, true, true, true, true, true, true, true, false, false, false, false, false]
abbrev zc50 : Array Bool := #[true, true, true, true, true, true, true, true, true, true, true, true, true, true, true, true, true, true, true, true, true, true, true, true, true, true, true, true, true, true, true, true, true, true, true, true, true, true, true, true, true, true, true, true, true, true, true, true, true, true, false, false, false, false]
abbrev zc51 : Array Bool := #[true, true, true, true, true, true, true, true, true, true, true, true, true, true, true, true, true, true, true, true, true, true, true, true, true, true, true, true, true, true, true, true, true, true, true, true, true, true, true, true, true, true, true, true, true, true, true, true, true, true, true, false, false, false]
abbrev zc52 : Array Bool := #[true, true, true, true, true, true, true, true, true, true, true, true, true, true, true, true, true, true, true, true, true, true, true, true, true, true, true, true, true, true, true, true, true, true, true, true, true, true, true, true, true, true, true, true, true, true, true, true, true, true, true, true, false, false]
abbrev zc53 : Array Bool := #[true, true, true, true, true, true, true, true, true, true, true, true, true, true, true, true, true, true, true, true, true, true, true, true, true, true, true, true, true, true, true, true, true, true, true, true, true, true, true, true, true, true, true, true, true, true, true, true, true, true, true, true, true, false]
abbrev zc54 : Array Bool := #[true, true, true, true, true, true, true, true, true, true, true, true, true, true, true, true, true, true, true, true, true, true, true, true, true, true, true, true, true, true, true, true, true, true, true, true, true, true, true, true, true, true, true, true, true, true, true, true, true, true, true, true, true, true]

/-! ### lodestonelaw26_RecordKeys: function 4 -/
def lodestonelaw26_RecordKeys.j0 : Nat → Bool → Int → ByteArray → Int → Int → Int → Int → Option (Bool)
 | 0, _, _, _, _, _, _, _ => none
 | k + 1, x0, x2, x7, x8, x288000, x288001, x288002 => (lodestoneref05_Num.f k x288000).bind fun t288 => (if x7.size + t288.size ≤ 9223372036854775807 then ((lodestonelaw26_awake.f k).bind fun t289 => (if t289 = true then ((record_Key.f x0 x288002).bind fun t290 => ((lodestoneref26_Key.f k x0 x288002).bind fun t291 => (if t290.toList = t291.toList then ((record_Beside.f k x0 x288000 (wrap64 ((-1) - (Go.bits .and .i64 x2 63))) x8).bind fun t292 => (if t292.toList = (x7 ++ t288).toList then ((record_Beside.f k x0 x288000 (Go.bits .and .i64 x2 63) 0).bind fun t293 => ((lodestoneref05_Num.f k (IntKind.u64.wrap (Go.bits .and .i64 x2 63))).bind fun t294 => (if (x7 ++ t288).size + t294.size ≤ 9223372036854775807 then (if t293.toList = ((x7 ++ t288) ++ t294).toList then ((record_Beside.f k x0 x288000 (Go.bits .and .i64 x2 63) x8).bind fun t295 => ((lodestoneref05_Num.f k (IntKind.u64.wrap (Go.bits .and .i64 x2 63))).bind fun t296 => (if (x7 ++ t288).size + t296.size ≤ 9223372036854775807 then ((lodestoneref05_Num.f k x8).bind fun t297 => (if ((x7 ++ t288) ++ t296).size + t297.size ≤ 9223372036854775807 then (some (t295.toList == (((x7 ++ t288) ++ t296) ++ t297).toList)) else (none))) else (none)))) else (some false)) else (none)))) else (some false))) else (some false)))) else (some false))) else (none))
def lodestonelaw26_RecordKeys.f (k : Nat) (a0 : Bool) (a1_0 : Int) (a1_1 : Int) (a1_2 : Int) (a2 : Int) : Option (Bool) := if a0 = true then (lodestonelaw26_RecordKeys.j0 k a0 a2 (⟨#[111]⟩ : ByteArray) (Go.bits .or .u64 a1_1 1) a1_0 a1_1 a1_2) else (lodestonelaw26_RecordKeys.j0 k a0 a2 (⟨#[105]⟩ : ByteArray) (Go.bits .or .u64 a1_1 1) a1_0 a1_1 a1_2)
theorem lodestonelaw26_RecordKeys.mono_l : ∀ k, (∀ y0 y1 y2 y3 y4 y5 y6, LeO (lodestonelaw26_RecordKeys.j0 k y0 y1 y2 y3 y4 y5 y6) (lodestonelaw26_RecordKeys.j0 (k + 1) y0 y1 y2 y3 y4 y5 y6))
 | 0 => fun _ _ _ _ _ _ _ r h => by simp [lodestonelaw26_RecordKeys.j0] at h
 | k + 1 => by
  have ih0 := lodestonelaw26_RecordKeys.mono_l k
  ·intro y0 y1 y2 y3 y4 y5 y6
   unfold lodestonelaw26_RecordKeys.j0
   repeat' first
   | (with_reducible exact ih0 _ _ _ _ _ _ _)
   | (with_reducible exact lodestonelaw26_awake.mono _)
   | (with_reducible exact lodestoneref05_Num.mono _ _)
   | (with_reducible exact lodestoneref26_Key.mono _ _ _)
   | (with_reducible exact record_Beside.mono _ _ _ _ _)
   | (with_reducible exact LeO.refl _)
   | (with_reducible exact LeO.none _)
   | (with_reducible refine LeO.ite ?_ ?_)
   | (with_reducible refine LeO.bind ?_ (fun _ => ?_))
   | exact ih0 _ _ _ _ _ _ _
   | exact lodestonelaw26_awake.mono _
   | exact lodestoneref05_Num.mono _ _
   | exact lodestoneref26_Key.mono _ _ _
   | exact record_Beside.mono _ _ _ _ _
   | exact LeO.none _
   | refine LeO.ite ?_ ?_
   | refine LeO.bind ?_ (fun _ => ?_)
theorem lodestonelaw26_RecordKeys.mono : ∀ a0 a1 a2 a3 a4 k, LeO (lodestonelaw26_RecordKeys.f k a0 a1 a2 a3 a4) (lodestonelaw26_RecordKeys.f (k + 1) a0 a1 a2 a3 a4) := by
 intro a0 a1 a2 a3 a4 k
 have ih0 := lodestonelaw26_RecordKeys.mono_l k
 unfold lodestonelaw26_RecordKeys.f
 repeat' first
   | (with_reducible exact ih0 _ _ _ _ _ _ _)
   | (with_reducible exact lodestonelaw26_awake.mono _)
   | (with_reducible exact lodestoneref05_Num.mono _ _)
   | (with_reducible exact lodestoneref26_Key.mono _ _ _)
   | (with_reducible exact record_Beside.mono _ _ _ _ _)
   | (with_reducible exact LeO.refl _)
   | (with_reducible exact LeO.none _)
   | (with_reducible refine LeO.ite ?_ ?_)
   | (with_reducible refine LeO.bind ?_ (fun _ => ?_))
   | exact ih0 _ _ _ _ _ _ _
   | exact lodestonelaw26_awake.mono _
   | exact lodestoneref05_Num.mono _ _
   | exact lodestoneref26_Key.mono _ _ _
   | exact record_Beside.mono _ _ _ _ _
   | exact LeO.none _
   | refine LeO.ite ?_ ?_
   | refine LeO.bind ?_ (fun _ => ?_)
def lodestonelaw26_RecordKeys.T6 : Bool × List (List Nat × List Nat) := (true, [([], []), ([0, 0], [0]), ([1], [1]), ([1], [1]), ([3, 1], [1, 3]), ([2, 4, 1, 1], [1, 2, 4]), ([1], [1]), ([1], [1]), ([7, 1], [1, 7]), ([6, 8, 5, 1], [1, 6, 8]), ([5, 9, 1], [1, 5, 9]), ([1, 10], [1, 10]), ([11, 9], [11]), ([12], [12]), ([12], [12]), ([14, 12], [12, 14]), ([12], [12]), ([16, 12], [12, 16]), ([12], [12]), ([13, 15, 17, 18, 12, 12], [12, 13, 15, 17, 18]), ([12], [12]), ([19, 20, 12], [12, 19, 20]), ([12, 21], [12, 21]), ([22, 19], [22]), ([23], [23]), ([23], [23]), ([25, 23], [23, 25]), ([23], [23]), ([24, 26, 27, 23, 23], [23, 24, 26, 27]), ([23], [23]), ([23], [23]), ([30, 23], [23, 30]), ([31, 28, 23], [23, 31]), ([29, 32, 23], [23, 29, 32]), ([28, 33, 23], [23, 28, 33]), ([23, 34], [23, 34]), ([35, 32], [35]), ([36], [36]), ([36], [36]), ([38, 36], [36, 38]), ([36], [36]), ([36], [36]), ([37, 39, 40, 41, 36, 36], [36, 37, 39, 40, 41]), ([36], [36]), ([36], [36]), ([44, 36], [36, 44]), ([45, 42, 36], [36, 45]), ([43, 46, 36], [36, 43, 46]), ([36], [36]), ([48, 46, 36], [36, 48]), ([47, 49, 36], [36, 47, 49]), ([42, 50, 36], [36, 42, 50]), ([36, 51], [36, 51]), ([52, 49, 0, 1, 2, 3, 4, 5, 6, 7, 8, 9, 10, 11, 12, 13, 14, 15, 16, 17, 18, 19, 20, 21, 22, 23, 24, 25, 26, 27, 28, 29, 30, 31, 32, 33, 34, 35, 36, 37, 38, 39, 40, 41, 42, 43, 44, 45, 46, 47, 48, 49, 50, 51, 52], [52])])
def lodestonelaw26_RecordKeys.B6 : List Nat := [0, 1, 3, 3, 11, 31, 3, 3, 131, 511, 1023, 2047, 4095, 8191, 8191, 24575, 8191, 73727, 8191, 524287, 8191, 2097151, 4194303, 8388607, 16777215, 16777215, 50331647, 16777215, 268435455, 16777215, 16777215, 1090519039, 3758096383, 8589934591, 17179869183, 34359738367, 68719476735, 137438953471, 137438953471, 412316860415, 137438953471, 137438953471, 4398046511103, 137438953471, 137438953471, 17729624997887, 61572651155455, 140737488355327, 137438953471, 413416372043775, 1125899906842623, 2251799813685247, 4503599627370495, 9007199254740991]
theorem lodestonelaw26_RecordKeys.tab6 : rtab .any (opsOf Tryd.f4 6) = lodestonelaw26_RecordKeys.T6 := by kernel_rfl
theorem lodestonelaw26_RecordKeys.bits6 : waitsOk lodestonelaw26_RecordKeys.T6.2 lodestonelaw26_RecordKeys.B6 = true := by kernel_rfl
set_option maxHeartbeats 8000000 in
set_option maxRecDepth 100000 in
theorem lodestonelaw26_RecordKeys.calls (k : Nat) (a0 : Bool) (a1_0 : Int) (a1_1 : Int) (a1_2 : Int) (a2 : Int) (r : Bool) (w : World) (h : lodestonelaw26_RecordKeys.f k a0 a1_0 a1_1 a1_2 a2 = some r) (hr : r = true) :
  Calls Tryd.prog 4 #[.bool a0, .agg #[.int .u64 a1_0, .int .u64 a1_1, .int .u64 a1_2], .int .i64 a2] w fun e w' => e = .returned (.bool r) ∧ Below w.heap.size w w' := by
 have HR_ := zM hr
 clear hr
 have hu36 := Tryd.underlying36
 have HB := zM (Below.refl w.heap.size w)
 have H : (if a0 = true then (lodestonelaw26_RecordKeys.j0 k a0 a2 (⟨#[111]⟩ : ByteArray) (Go.bits .or .u64 a1_1 1) a1_0 a1_1 a1_2) else (lodestonelaw26_RecordKeys.j0 k a0 a2 (⟨#[105]⟩ : ByteArray) (Go.bits .or .u64 a1_1 1) a1_0 a1_1 a1_2)) = some r := h
 clear h
 have HC4 := zM H
 clear H
 go_enter Tryd.func4, Tryd.ntmps4
 try go_wp2_with (first | ((with_reducible refine gate_dst (N := 4) rfl ?_); refine box_event ?hg (N := 4) ?hd (cs := #[.int .u64 a1_0, .int .u64 a1_1, .int .u64 a1_2]) (t := 36) ?hr ?_; (case hd => rfl); (case hg => rfl); (case hr => first | (go_simp; done) | (go_simp; rfl)); intro gb287 hg w5 hbox hb; have n0_ := zM (below_step (by repeat (first | (with_reducible first | exact HB.out | apply zL | apply zP | apply zW) | exact HB.out)) hb); have n1_ := zM (hbox); have n2_ := zM ((by rw [hg]; exact (below_size (by repeat (first | (with_reducible first | exact HB.out | apply zL | apply zP | apply zW) | exact HB.out))) : w.heap.size ≤ gb287)); have n3_ := zM ((by rw [hg]; exact (below_size (by repeat (first | (with_reducible first | exact HB.out | apply zL | apply zP | apply zW) | exact HB.out))) : w.heap.size ≤ gb287)); clear HB; have HB := n0_; have BK287 := n1_; have GW287 := n2_; have GE287 := n3_; clear n0_ n1_ n2_ n3_; clear hb hbox hg))
 have n0_ := zM (zD BK287.out)
 have n1_ := zM (zW HB.out)
 clear BK287
 clear HB
 have BK287 := n0_
 have HB := n1_
 clear n0_ n1_
 refine start_ (n := 5) (S := fun w' => w'.cell? ⟨gb287, 0, none⟩ = some (.int .u64 a1_0) ∧ w'.cell? ⟨gb287, 1, none⟩ = some (.int .u64 a1_1) ∧ w'.cell? ⟨gb287, 2, none⟩ = some (.int .u64 a1_2)) (ds := []) #[false, false, false, false, false] (by kernel_rfl) rfl rfl ⟨(zC BK287.out 0).trans rfl, (zC BK287.out 1).trans rfl, (zC BK287.out 2).trans rfl⟩ (fun hHeld => ?_)
 generalize w5.drew = w6 at BK287 HB hHeld ⊢
 refine pure_ (i := 0) (N := some 11) (v := ?_) (a' := ?_) #[true, false, false, false, false] rfl rfl (by kernel_rfl) (fun _ _ _ h => h) (Or.inl ⟨by rfl, ?_⟩) ?_ ?_
 rotate_left
 ·intro w'
  go_simp
  with_reducible rfl
 rotate_left
 ·simp only [Act.put, zT, zZ, zU, i64_w, i32_w]
  rfl
 refine pure_ (i := 3) (N := some 7) (v := ?_) (a' := ?_) #[true, false, false, true, false] rfl rfl (by kernel_rfl) (fun _ _ _ h => h) (Or.inl ⟨by rfl, ?_⟩) ?_ ?_
 rotate_left
 ·intro w'
  go_simp
  with_reducible rfl
 rotate_left
 ·simp only [Act.put, zT, zZ, zU, i64_w, i32_w]
  rfl
 refine take_ (i := 1) (N := some 12) (v := ?_) (a' := ?_) #[true, true, false, true, false] rfl rfl (by kernel_rfl) (fun _ _ _ h => h) (Or.inl ⟨by rfl, ?_⟩) hHeld ?_ ?_
 rotate_left
 ·rintro w' ⟨s0, s1, s2⟩
  go_simp
  with_reducible rfl
 rotate_left
 ·simp only [Act.put, zT, zZ, zU, i64_w, i32_w]
  rfl
 refine pure_ (i := 2) (N := some 13) (v := ?_) (a' := ?_) #[true, true, true, true, false] rfl rfl (by kernel_rfl) (fun _ _ _ h => h) (Or.inl ⟨by rfl, ?_⟩) ?_ ?_
 rotate_left
 ·intro w'
  go_simp
  with_reducible rfl
 rotate_left
 ·simp only [Act.put, zT, zZ, zU, i64_w, i32_w]
  rfl
 refine pure_ (i := 4) (N := some 8) (v := ?_) (a' := ?_) #[true, true, true, true, true] rfl rfl (by kernel_rfl) (fun _ _ _ h => h) (Or.inl ⟨by rfl, ?_⟩) ?_ ?_
 rotate_left
 ·intro w'
  go_simp
  with_reducible rfl
 rotate_left
 ·simp only [Act.put, zT, zZ, zU, i64_w, i32_w]
  rfl
 refine done_ (by kernel_rfl) ?_
 go_upto_if 14 with (fail)
 go_cut [7] (fun v7 wc => ∃ (kq : Nat) (x7_3 : ByteArray), v7 = .string x7_3 ∧ Aside0 (lodestonelaw26_RecordKeys.j0 kq a0 a2 x7_3 (Go.bits .or .u64 a1_1 1) a1_0 a1_1 a1_2 = some r) ∧ Aside0 (kq ≤ k) ∧ Aside0 (wc.heap[gb287]? = some (.cells #[.int .u64 a1_0, .int .u64 a1_1, .int .u64 a1_2] 36 (0, 0))) ∧ Aside0 (Below w.heap.size w wc))
 case first =>
  have H := HC4.out
  clear HC4
  by_cases c7 : a0 = true
  ·subst c7
   have H1 : (lodestonelaw26_RecordKeys.j0 k true a2 (⟨#[111]⟩ : ByteArray) (Go.bits .or .u64 a1_1 1) a1_0 a1_1 a1_2) = some r := by rw [if_pos rfl] at H; exact H
   clear H
   have H := H1
   clear H1
   have H' := zM H
   clear H
   go_wp2
   go_meet
   case rel => exact ⟨_, ((⟨#[111]⟩ : ByteArray)), (by first | rfl | (simp; done) | (simp [*]; done)), H', ⟨by first | omega | exact Nat.le_refl _⟩, ⟨by (with_reducible repeat (first | refine zN ?_ _ | refine zD ?_ | refine zA ?_ _)); exact BK287.out⟩, ⟨by repeat (first | (with_reducible first | exact HB.out | apply zL | apply zP | apply zW | refine zS ?_ GE287.out) | exact HB.out)⟩⟩
  ·replace c7 := Bool.eq_false_iff.mpr c7
   subst c7
   have H1 : (lodestonelaw26_RecordKeys.j0 k false a2 (⟨#[105]⟩ : ByteArray) (Go.bits .or .u64 a1_1 1) a1_0 a1_1 a1_2) = some r := by rw [if_neg (show ¬ (false = true) by decide)] at H; exact H
   clear H
   have H := H1
   clear H1
   have H' := zM H
   clear H
   go_wp2
   go_meet
   case rel => exact ⟨_, ((⟨#[105]⟩ : ByteArray)), (by first | rfl | (simp; done) | (simp [*]; done)), H', ⟨by first | omega | exact Nat.le_refl _⟩, ⟨by (with_reducible repeat (first | refine zN ?_ _ | refine zD ?_ | refine zA ?_ _)); exact BK287.out⟩, ⟨by repeat (first | (with_reducible first | exact HB.out | apply zL | apply zP | apply zW | refine zS ?_ GE287.out) | exact HB.out)⟩⟩
 case rest =>
  clear HC4
  try clear p2
  try clear c4
  try clear c7
  obtain ⟨kq, x7_3, rfl, HA, HJ3, BK287, HB⟩ := hcut
  cases kq with
  | zero => exact absurd HA.out (by simp [lodestonelaw26_RecordKeys.j0])
  | succ kj3 =>
   have H := HA.out
   clear HA
   simp only [lodestonelaw26_RecordKeys.j0] at H
   replace H := Option.bind_eq_some_iff.mp H
   obtain ⟨t288, A80, H⟩ := H
   replace H : (if x7_3.size + t288.size ≤ 9223372036854775807 then ((lodestonelaw26_awake.f kj3).bind fun t289 => (if t289 = true then ((record_Key.f a0 a1_2).bind fun t290 => ((lodestoneref26_Key.f kj3 a0 a1_2).bind fun t291 => (if t290.toList = t291.toList then ((record_Beside.f kj3 a0 a1_0 (wrap64 ((-1) - (Go.bits .and .i64 a2 63))) (Go.bits .or .u64 a1_1 1)).bind fun t292 => (if t292.toList = (x7_3 ++ t288).toList then ((record_Beside.f kj3 a0 a1_0 (Go.bits .and .i64 a2 63) 0).bind fun t293 => ((lodestoneref05_Num.f kj3 (IntKind.u64.wrap (Go.bits .and .i64 a2 63))).bind fun t294 => (if (x7_3 ++ t288).size + t294.size ≤ 9223372036854775807 then (if t293.toList = ((x7_3 ++ t288) ++ t294).toList then ((record_Beside.f kj3 a0 a1_0 (Go.bits .and .i64 a2 63) (Go.bits .or .u64 a1_1 1)).bind fun t295 => ((lodestoneref05_Num.f kj3 (IntKind.u64.wrap (Go.bits .and .i64 a2 63))).bind fun t296 => (if (x7_3 ++ t288).size + t296.size ≤ 9223372036854775807 then ((lodestoneref05_Num.f kj3 (Go.bits .or .u64 a1_1 1)).bind fun t297 => (if ((x7_3 ++ t288) ++ t296).size + t297.size ≤ 9223372036854775807 then (some (t295.toList == (((x7_3 ++ t288) ++ t296) ++ t297).toList)) else (none))) else (none)))) else (some false)) else (none)))) else (some false))) else (some false)))) else (some false))) else (none)) = some r := H
   have A8 := zM A80
   clear A80
   by_cases c9 : x7_3.size + t288.size ≤ 9223372036854775807
   ·rw [if_pos c9] at H
    have c9b0 := eq_true c9
    have c9b1 : decide (x7_3.size + t288.size ≤ 9223372036854775807) = true := decide_eq_true c9
    try have c9b2 : (9223372036854775807 < x7_3.size + t288.size) = False := eq_false (Nat.not_lt.2 c9)
    replace H := Option.bind_eq_some_iff.mp H
    obtain ⟨t289, A100, H⟩ := H
    replace H : (if t289 = true then ((record_Key.f a0 a1_2).bind fun t290 => ((lodestoneref26_Key.f kj3 a0 a1_2).bind fun t291 => (if t290.toList = t291.toList then ((record_Beside.f kj3 a0 a1_0 (wrap64 ((-1) - (Go.bits .and .i64 a2 63))) (Go.bits .or .u64 a1_1 1)).bind fun t292 => (if t292.toList = (x7_3 ++ t288).toList then ((record_Beside.f kj3 a0 a1_0 (Go.bits .and .i64 a2 63) 0).bind fun t293 => ((lodestoneref05_Num.f kj3 (IntKind.u64.wrap (Go.bits .and .i64 a2 63))).bind fun t294 => (if (x7_3 ++ t288).size + t294.size ≤ 9223372036854775807 then (if t293.toList = ((x7_3 ++ t288) ++ t294).toList then ((record_Beside.f kj3 a0 a1_0 (Go.bits .and .i64 a2 63) (Go.bits .or .u64 a1_1 1)).bind fun t295 => ((lodestoneref05_Num.f kj3 (IntKind.u64.wrap (Go.bits .and .i64 a2 63))).bind fun t296 => (if (x7_3 ++ t288).size + t296.size ≤ 9223372036854775807 then ((lodestoneref05_Num.f kj3 (Go.bits .or .u64 a1_1 1)).bind fun t297 => (if ((x7_3 ++ t288) ++ t296).size + t297.size ≤ 9223372036854775807 then (some (t295.toList == (((x7_3 ++ t288) ++ t296) ++ t297).toList)) else (none))) else (none)))) else (some false)) else (none)))) else (some false))) else (some false)))) else (some false)) = some r := H
    have A10 := zM A100
    clear A100
    by_cases c11 : t289 = true
    ·subst c11
     have H1 : ((record_Key.f a0 a1_2).bind fun t290 => ((lodestoneref26_Key.f kj3 a0 a1_2).bind fun t291 => (if t290.toList = t291.toList then ((record_Beside.f kj3 a0 a1_0 (wrap64 ((-1) - (Go.bits .and .i64 a2 63))) (Go.bits .or .u64 a1_1 1)).bind fun t292 => (if t292.toList = (x7_3 ++ t288).toList then ((record_Beside.f kj3 a0 a1_0 (Go.bits .and .i64 a2 63) 0).bind fun t293 => ((lodestoneref05_Num.f kj3 (IntKind.u64.wrap (Go.bits .and .i64 a2 63))).bind fun t294 => (if (x7_3 ++ t288).size + t294.size ≤ 9223372036854775807 then (if t293.toList = ((x7_3 ++ t288) ++ t294).toList then ((record_Beside.f kj3 a0 a1_0 (Go.bits .and .i64 a2 63) (Go.bits .or .u64 a1_1 1)).bind fun t295 => ((lodestoneref05_Num.f kj3 (IntKind.u64.wrap (Go.bits .and .i64 a2 63))).bind fun t296 => (if (x7_3 ++ t288).size + t296.size ≤ 9223372036854775807 then ((lodestoneref05_Num.f kj3 (Go.bits .or .u64 a1_1 1)).bind fun t297 => (if ((x7_3 ++ t288) ++ t296).size + t297.size ≤ 9223372036854775807 then (some (t295.toList == (((x7_3 ++ t288) ++ t296) ++ t297).toList)) else (none))) else (none)))) else (some false)) else (none)))) else (some false))) else (some false)))) = some r := by rw [if_pos rfl] at H; exact H
     clear H
     have H := H1
     clear H1
     replace H := Option.bind_eq_some_iff.mp H
     obtain ⟨t290, A120, H⟩ := H
     replace H : ((lodestoneref26_Key.f kj3 a0 a1_2).bind fun t291 => (if t290.toList = t291.toList then ((record_Beside.f kj3 a0 a1_0 (wrap64 ((-1) - (Go.bits .and .i64 a2 63))) (Go.bits .or .u64 a1_1 1)).bind fun t292 => (if t292.toList = (x7_3 ++ t288).toList then ((record_Beside.f kj3 a0 a1_0 (Go.bits .and .i64 a2 63) 0).bind fun t293 => ((lodestoneref05_Num.f kj3 (IntKind.u64.wrap (Go.bits .and .i64 a2 63))).bind fun t294 => (if (x7_3 ++ t288).size + t294.size ≤ 9223372036854775807 then (if t293.toList = ((x7_3 ++ t288) ++ t294).toList then ((record_Beside.f kj3 a0 a1_0 (Go.bits .and .i64 a2 63) (Go.bits .or .u64 a1_1 1)).bind fun t295 => ((lodestoneref05_Num.f kj3 (IntKind.u64.wrap (Go.bits .and .i64 a2 63))).bind fun t296 => (if (x7_3 ++ t288).size + t296.size ≤ 9223372036854775807 then ((lodestoneref05_Num.f kj3 (Go.bits .or .u64 a1_1 1)).bind fun t297 => (if ((x7_3 ++ t288) ++ t296).size + t297.size ≤ 9223372036854775807 then (some (t295.toList == (((x7_3 ++ t288) ++ t296) ++ t297).toList)) else (none))) else (none)))) else (some false)) else (none)))) else (some false))) else (some false))) = some r := H
     have A12 := zM A120
     clear A120
     replace H := Option.bind_eq_some_iff.mp H
     obtain ⟨t291, A130, H⟩ := H
     replace H : (if t290.toList = t291.toList then ((record_Beside.f kj3 a0 a1_0 (wrap64 ((-1) - (Go.bits .and .i64 a2 63))) (Go.bits .or .u64 a1_1 1)).bind fun t292 => (if t292.toList = (x7_3 ++ t288).toList then ((record_Beside.f kj3 a0 a1_0 (Go.bits .and .i64 a2 63) 0).bind fun t293 => ((lodestoneref05_Num.f kj3 (IntKind.u64.wrap (Go.bits .and .i64 a2 63))).bind fun t294 => (if (x7_3 ++ t288).size + t294.size ≤ 9223372036854775807 then (if t293.toList = ((x7_3 ++ t288) ++ t294).toList then ((record_Beside.f kj3 a0 a1_0 (Go.bits .and .i64 a2 63) (Go.bits .or .u64 a1_1 1)).bind fun t295 => ((lodestoneref05_Num.f kj3 (IntKind.u64.wrap (Go.bits .and .i64 a2 63))).bind fun t296 => (if (x7_3 ++ t288).size + t296.size ≤ 9223372036854775807 then ((lodestoneref05_Num.f kj3 (Go.bits .or .u64 a1_1 1)).bind fun t297 => (if ((x7_3 ++ t288) ++ t296).size + t297.size ≤ 9223372036854775807 then (some (t295.toList == (((x7_3 ++ t288) ++ t296) ++ t297).toList)) else (none))) else (none)))) else (some false)) else (none)))) else (some false))) else (some false)) = some r := H
     have A13 := zM A130
     clear A130
     by_cases c14 : t290.toList = t291.toList
     ·rw [if_pos c14] at H
      have c14b0 : (t290.toList == t291.toList) = true := beq_iff_eq.mpr c14
      have c14b1 : (t290.toList != t291.toList) = false := bne_eq_false_iff_eq.mpr c14
      clear c14
      replace H := Option.bind_eq_some_iff.mp H
      obtain ⟨t292, A150, H⟩ := H
      replace H : (if t292.toList = (x7_3 ++ t288).toList then ((record_Beside.f kj3 a0 a1_0 (Go.bits .and .i64 a2 63) 0).bind fun t293 => ((lodestoneref05_Num.f kj3 (IntKind.u64.wrap (Go.bits .and .i64 a2 63))).bind fun t294 => (if (x7_3 ++ t288).size + t294.size ≤ 9223372036854775807 then (if t293.toList = ((x7_3 ++ t288) ++ t294).toList then ((record_Beside.f kj3 a0 a1_0 (Go.bits .and .i64 a2 63) (Go.bits .or .u64 a1_1 1)).bind fun t295 => ((lodestoneref05_Num.f kj3 (IntKind.u64.wrap (Go.bits .and .i64 a2 63))).bind fun t296 => (if (x7_3 ++ t288).size + t296.size ≤ 9223372036854775807 then ((lodestoneref05_Num.f kj3 (Go.bits .or .u64 a1_1 1)).bind fun t297 => (if ((x7_3 ++ t288) ++ t296).size + t297.size ≤ 9223372036854775807 then (some (t295.toList == (((x7_3 ++ t288) ++ t296) ++ t297).toList)) else (none))) else (none)))) else (some false)) else (none)))) else (some false)) = some r := H
      have A15 := zM A150
      clear A150
      by_cases c16 : t292.toList = (x7_3 ++ t288).toList
      ·rw [if_pos c16] at H
       have c16b0 : (t292.toList == (x7_3 ++ t288).toList) = true := beq_iff_eq.mpr c16
       have c16b1 : (t292.toList != (x7_3 ++ t288).toList) = false := bne_eq_false_iff_eq.mpr c16
       clear c16
       replace H := Option.bind_eq_some_iff.mp H
       obtain ⟨t293, A170, H⟩ := H
       replace H : ((lodestoneref05_Num.f kj3 (IntKind.u64.wrap (Go.bits .and .i64 a2 63))).bind fun t294 => (if (x7_3 ++ t288).size + t294.size ≤ 9223372036854775807 then (if t293.toList = ((x7_3 ++ t288) ++ t294).toList then ((record_Beside.f kj3 a0 a1_0 (Go.bits .and .i64 a2 63) (Go.bits .or .u64 a1_1 1)).bind fun t295 => ((lodestoneref05_Num.f kj3 (IntKind.u64.wrap (Go.bits .and .i64 a2 63))).bind fun t296 => (if (x7_3 ++ t288).size + t296.size ≤ 9223372036854775807 then ((lodestoneref05_Num.f kj3 (Go.bits .or .u64 a1_1 1)).bind fun t297 => (if ((x7_3 ++ t288) ++ t296).size + t297.size ≤ 9223372036854775807 then (some (t295.toList == (((x7_3 ++ t288) ++ t296) ++ t297).toList)) else (none))) else (none)))) else (some false)) else (none))) = some r := H
       have A17 := zM A170
       clear A170
       replace H := Option.bind_eq_some_iff.mp H
       obtain ⟨t294, A180, H⟩ := H
       replace H : (if (x7_3 ++ t288).size + t294.size ≤ 9223372036854775807 then (if t293.toList = ((x7_3 ++ t288) ++ t294).toList then ((record_Beside.f kj3 a0 a1_0 (Go.bits .and .i64 a2 63) (Go.bits .or .u64 a1_1 1)).bind fun t295 => ((lodestoneref05_Num.f kj3 (IntKind.u64.wrap (Go.bits .and .i64 a2 63))).bind fun t296 => (if (x7_3 ++ t288).size + t296.size ≤ 9223372036854775807 then ((lodestoneref05_Num.f kj3 (Go.bits .or .u64 a1_1 1)).bind fun t297 => (if ((x7_3 ++ t288) ++ t296).size + t297.size ≤ 9223372036854775807 then (some (t295.toList == (((x7_3 ++ t288) ++ t296) ++ t297).toList)) else (none))) else (none)))) else (some false)) else (none)) = some r := H
       have A18 := zM A180
       clear A180
       by_cases c19 : (x7_3 ++ t288).size + t294.size ≤ 9223372036854775807
       ·rw [if_pos c19] at H
        have c19b0 := eq_true c19
        have c19b1 : decide ((x7_3 ++ t288).size + t294.size ≤ 9223372036854775807) = true := decide_eq_true c19
        try have c19b2 : (9223372036854775807 < (x7_3 ++ t288).size + t294.size) = False := eq_false (Nat.not_lt.2 c19)
        have c19q := c19
        simp only [ByteArray.size_append] at c19q
        have c19b9 := eq_false (Nat.not_lt.2 c19q)
        clear c19q
        by_cases c20 : t293.toList = ((x7_3 ++ t288) ++ t294).toList
        ·rw [if_pos c20] at H
         have c20b0 : (t293.toList == ((x7_3 ++ t288) ++ t294).toList) = true := beq_iff_eq.mpr c20
         have c20b1 : (t293.toList != ((x7_3 ++ t288) ++ t294).toList) = false := bne_eq_false_iff_eq.mpr c20
         clear c20
         replace H := Option.bind_eq_some_iff.mp H
         obtain ⟨t295, A210, H⟩ := H
         replace H : ((lodestoneref05_Num.f kj3 (IntKind.u64.wrap (Go.bits .and .i64 a2 63))).bind fun t296 => (if (x7_3 ++ t288).size + t296.size ≤ 9223372036854775807 then ((lodestoneref05_Num.f kj3 (Go.bits .or .u64 a1_1 1)).bind fun t297 => (if ((x7_3 ++ t288) ++ t296).size + t297.size ≤ 9223372036854775807 then (some (t295.toList == (((x7_3 ++ t288) ++ t296) ++ t297).toList)) else (none))) else (none))) = some r := H
         have A21 := zM A210
         clear A210
         replace H := Option.bind_eq_some_iff.mp H
         obtain ⟨t296, A220, H⟩ := H
         replace H : (if (x7_3 ++ t288).size + t296.size ≤ 9223372036854775807 then ((lodestoneref05_Num.f kj3 (Go.bits .or .u64 a1_1 1)).bind fun t297 => (if ((x7_3 ++ t288) ++ t296).size + t297.size ≤ 9223372036854775807 then (some (t295.toList == (((x7_3 ++ t288) ++ t296) ++ t297).toList)) else (none))) else (none)) = some r := H
         have A22 := zM A220
         clear A220
         by_cases c23 : (x7_3 ++ t288).size + t296.size ≤ 9223372036854775807
         ·rw [if_pos c23] at H
          have c23b0 := eq_true c23
          have c23b1 : decide ((x7_3 ++ t288).size + t296.size ≤ 9223372036854775807) = true := decide_eq_true c23
          try have c23b2 : (9223372036854775807 < (x7_3 ++ t288).size + t296.size) = False := eq_false (Nat.not_lt.2 c23)
          have c23q := c23
          simp only [ByteArray.size_append] at c23q
          have c23b9 := eq_false (Nat.not_lt.2 c23q)
          clear c23q
          replace H := Option.bind_eq_some_iff.mp H
          obtain ⟨t297, A240, H⟩ := H
          replace H : (if ((x7_3 ++ t288) ++ t296).size + t297.size ≤ 9223372036854775807 then (some (t295.toList == (((x7_3 ++ t288) ++ t296) ++ t297).toList)) else (none)) = some r := H
          have A24 := zM A240
          clear A240
          by_cases c25 : ((x7_3 ++ t288) ++ t296).size + t297.size ≤ 9223372036854775807
          ·rw [if_pos c25] at H
           have c25b0 := eq_true c25
           have c25b1 : decide (((x7_3 ++ t288) ++ t296).size + t297.size ≤ 9223372036854775807) = true := decide_eq_true c25
           try have c25b2 : (9223372036854775807 < ((x7_3 ++ t288) ++ t296).size + t297.size) = False := eq_false (Nat.not_lt.2 c25)
           have c25q := c25
           simp only [ByteArray.size_append] at c25q
           have c25b9 := eq_false (Nat.not_lt.2 c25q)
           clear c25q
           obtain rfl := Option.some.inj H
           have hcz26_0 : wc.cell? ⟨gb287, 0, none⟩ = some (.int .u64 a1_0) := (zC BK287.out 0).trans rfl
           have hcz26_1 : wc.cell? ⟨gb287, 1, none⟩ = some (.int .u64 a1_1) := (zC BK287.out 1).trans rfl
           have hcz26_2 : wc.cell? ⟨gb287, 2, none⟩ = some (.int .u64 a1_2) := (zC BK287.out 2).trans rfl
           have hfz26_0 := zF BK287.out 0
           have hfz26_1 := zF BK287.out 1
           have hfz26_2 := zF BK287.out 2
           try go_wp2_with (first | ((with_reducible refine gate_callee (f := 14) rfl ?_); refine goesL_ (some 18) rfl rfl Tryd.func14 (by kernel_rfl) rfl #[.int .u64 a1_0] rfl (by (try simp only [zY, List.map_cons, List.map_nil]); first | done | rfl | (simp only [zV, zX]; rfl)) ?_; (with_reducible refine (lodestoneref05_Num.calls kj3 a1_0 t288 _ A8.out).mono ?_); rintro e w27 ⟨rfl, hb⟩; refine ⟨_, rfl, ?_⟩; have n0_ := zM (zB (g := gb287) (o := .cells #[.int .u64 a1_0, .int .u64 a1_1, .int .u64 a1_2] 36 (0, 0)) (by (with_reducible repeat (first | refine zN ?_ _ | refine zD ?_ | refine zA ?_ _)); exact BK287.out) hb); have n1_ := zM (below_step (by repeat (first | (with_reducible first | exact HB.out | apply zL | apply zP | apply zW | refine zS ?_ GE287.out) | exact HB.out)) hb); clear BK287; clear HB; have BK287 := n0_; have HB := n1_; clear n0_ n1_; (try clear hb); (try clear hb2); (try clear hk); (try clear hi)))
           have n0_ := zM (zD BK287.out)
           have n1_ := zM (zW HB.out)
           clear BK287
           clear HB
           have BK287 := n0_
           have HB := n1_
           clear n0_ n1_
           refine start_ (n := 54) (S := fun w' => w'.cell? ⟨gb287, 0, none⟩ = some (.int .u64 a1_0) ∧ w'.cell? ⟨gb287, 1, none⟩ = some (.int .u64 a1_1) ∧ w'.cell? ⟨gb287, 2, none⟩ = some (.int .u64 a1_2)) (ds := []) zc0 (by kernel_rfl) rfl rfl ⟨(zC BK287.out 0).trans rfl, (zC BK287.out 1).trans rfl, (zC BK287.out 2).trans rfl⟩ (fun hHeld => ?_); refine with_tabW lodestonelaw26_RecordKeys.tab6 lodestonelaw26_RecordKeys.bits6 (fun HT_ HW_ => ?_)
           generalize w27.drew = w28 at BK287 HB hHeld ⊢
           refine one_ (i := 0) (N := some 22) zc1 rfl rfl (one_of HT_.out (by kernel_rfl)) (by decide) (fun K hK => ?_)
           refine goes_ Tryd.func9 (by kernel_rfl) rfl #[] (by rfl) rfl rfl (by (try simp only [zY, List.map_cons, List.map_nil]); first | done | rfl | (simp only [zV, zX]; rfl)) ?_
           with_reducible refine (lodestonelaw26_awake.calls kj3  true _ A10.out).mono ?_
           rintro e w29 ⟨rfl, hb⟩
           refine ⟨_, rfl, ?_⟩
           have n0_ := zM (zB (g := gb287) (o := .cells #[.int .u64 a1_0, .int .u64 a1_1, .int .u64 a1_2] 36 (0, 0)) (by (with_reducible repeat (first | refine zN ?_ _ | refine zD ?_ | refine zA ?_ _)); exact BK287.out) hb)
           have n1_ := zM (below_step (by repeat (first | (with_reducible first | exact HB.out | apply zL | apply zP | apply zW | refine zS ?_ GE287.out) | exact HB.out)) hb)
           clear BK287
           clear HB
           have BK287 := n0_
           have HB := n1_
           clear n0_ n1_
           (try clear hb)
           (try clear hb2)
           (try clear hk)
           (try clear hi)
           refine hK.out _ _ ⟨(zC BK287.out 0).trans rfl, (zC BK287.out 1).trans rfl, (zC BK287.out 2).trans rfl⟩ (fun hHeld => ?_)
           clear hK K
           refine norm_ (a' := ?_) ?_ ?_
           rotate_left
           ·show Act.put _ (some 22) _ = _
            simp only [Act.put, zT, zZ, zU, i64_w, i32_w]
            rfl
           refine pure_ (i := 1) (N := some 23) (v := ?_) (a' := ?_) zc2 rfl rfl (any_of HT_.out (by kernel_rfl)) (fun _ _ _ h => h) (Or.inl ⟨by rfl, ?_⟩) ?_ ?_
           rotate_left
           ·intro w'
            go_simp
            with_reducible rfl
           rotate_left
           ·simp only [Act.put, zT, zZ, zU, i64_w, i32_w]
            rfl
           refine pure_ (i := 2) (N := some 24) (v := ?_) (a' := ?_) zc3 rfl rfl (any_of HT_.out (by kernel_rfl)) (fun _ _ _ h => h) (Or.inl ⟨by rfl, ?_⟩) ?_ ?_
           rotate_left
           ·intro w'
            go_simp
            with_reducible rfl
           rotate_left
           ·simp only [Act.put, zT, zZ, zU, i64_w, i32_w]
            rfl
           refine pure_ (i := 3) (N := some 25) (v := ?_) (a' := ?_) zc4 rfl rfl (any_of HT_.out (by kernel_rfl)) (fun _ _ _ h => h) (Or.inl ⟨by rfl, ?_⟩) ?_ ?_
           rotate_left
           ·intro w'
            go_simp
            with_reducible rfl
           rotate_left
           ·simp only [Act.put, zT, zZ, zU, i64_w, i32_w]
            rfl
           refine pure_ (i := 6) (N := some 28) (v := ?_) (a' := ?_) zc5 rfl rfl (any_of HT_.out (by kernel_rfl)) (fun _ _ _ h => h) (Or.inl ⟨by rfl, ?_⟩) ?_ ?_
           rotate_left
           ·intro w'
            go_simp
            with_reducible rfl
           rotate_left
           ·simp only [Act.put, zT, zZ, zU, i64_w, i32_w]
            rfl
           refine pure_ (i := 7) (N := some 29) (v := ?_) (a' := ?_) zc6 rfl rfl (any_of HT_.out (by kernel_rfl)) (fun _ _ _ h => h) (Or.inl ⟨by rfl, ?_⟩) ?_ ?_
           rotate_left
           ·intro w'
            go_simp
            with_reducible rfl
           rotate_left
           ·simp only [Act.put, zT, zZ, zU, i64_w, i32_w]
            rfl
           refine take_ (i := 4) (N := some 26) (v := ?_) (a' := ?_) zc7 rfl rfl (take_ofW HT_.out HW_.out (by kernel_rfl)) (fun _ _ _ h => h) (Or.inl ⟨by rfl, ?_⟩) hHeld ?_ ?_
           rotate_left
           ·rintro w' ⟨s0, s1, s2⟩
            go_simp
            with_reducible rfl
           rotate_left
           ·simp only [Act.put, zT, zZ, zU, i64_w, i32_w]
            rfl
           refine take_ (i := 8) (N := some 30) (v := ?_) (a' := ?_) zc8 rfl rfl (take_ofW HT_.out HW_.out (by kernel_rfl)) (fun _ _ _ h => h) (Or.inl ⟨by rfl, ?_⟩) hHeld ?_ ?_
           rotate_left
           ·rintro w' ⟨s0, s1, s2⟩
            go_simp
            with_reducible rfl
           rotate_left
           ·simp only [Act.put, zT, zZ, zU, i64_w, i32_w]
            rfl
           refine one_ (i := 5) (N := some 27) zc9 rfl rfl (one_of HT_.out (by kernel_rfl)) (by decide) (fun K hK => ?_)
           refine goes_ Tryd.func15 (by kernel_rfl) rfl #[.bool a0, .int .u64 a1_2] (by rfl) rfl rfl (by (try simp only [zY, List.map_cons, List.map_nil]); first | done | rfl | (simp only [zV, zX]; rfl)) ?_
           with_reducible refine (record_Key.calls a0 a1_2 t290 _ A12.out).mono ?_
           rintro e w30 ⟨rfl, hb⟩
           refine ⟨_, rfl, ?_⟩
           have n0_ := zM (zB (g := gb287) (o := .cells #[.int .u64 a1_0, .int .u64 a1_1, .int .u64 a1_2] 36 (0, 0)) (by (with_reducible repeat (first | refine zN ?_ _ | refine zD ?_ | refine zA ?_ _)); exact BK287.out) hb)
           have n1_ := zM (below_step (by repeat (first | (with_reducible first | exact HB.out | apply zL | apply zP | apply zW | refine zS ?_ GE287.out) | exact HB.out)) hb)
           clear BK287
           clear HB
           have BK287 := n0_
           have HB := n1_
           clear n0_ n1_
           (try clear hb)
           (try clear hb2)
           (try clear hk)
           (try clear hi)
           refine hK.out _ _ ⟨(zC BK287.out 0).trans rfl, (zC BK287.out 1).trans rfl, (zC BK287.out 2).trans rfl⟩ (fun hHeld => ?_)
           clear hK K
           refine norm_ (a' := ?_) ?_ ?_
           rotate_left
           ·show Act.put _ (some 27) _ = _
            simp only [Act.put, zT, zZ, zU, i64_w, i32_w]
            rfl
           refine one_ (i := 9) (N := some 31) zc10 rfl rfl (one_of HT_.out (by kernel_rfl)) (by decide) (fun K hK => ?_)
           refine goes_ Tryd.func16 (by kernel_rfl) rfl #[.bool a0, .int .u64 a1_2] (by rfl) rfl rfl (by (try simp only [zY, List.map_cons, List.map_nil]); first | done | rfl | (simp only [zV, zX]; rfl)) ?_
           with_reducible refine (lodestoneref26_Key.calls kj3 a0 a1_2 t291 _ A13.out).mono ?_
           rintro e w31 ⟨rfl, hb⟩
           refine ⟨_, rfl, ?_⟩
           have n0_ := zM (zB (g := gb287) (o := .cells #[.int .u64 a1_0, .int .u64 a1_1, .int .u64 a1_2] 36 (0, 0)) (by (with_reducible repeat (first | refine zN ?_ _ | refine zD ?_ | refine zA ?_ _)); exact BK287.out) hb)
           have n1_ := zM (below_step (by repeat (first | (with_reducible first | exact HB.out | apply zL | apply zP | apply zW | refine zS ?_ GE287.out) | exact HB.out)) hb)
           clear BK287
           clear HB
           have BK287 := n0_
           have HB := n1_
           clear n0_ n1_
           (try clear hb)
           (try clear hb2)
           (try clear hk)
           (try clear hi)
           refine hK.out _ _ ⟨(zC BK287.out 0).trans rfl, (zC BK287.out 1).trans rfl, (zC BK287.out 2).trans rfl⟩ (fun hHeld => ?_)
           clear hK K
           refine norm_ (a' := ?_) ?_ ?_
           rotate_left
           ·show Act.put _ (some 31) _ = _
            simp only [Act.put, zT, zZ, zU, i64_w, i32_w]
            rfl
           refine pure_ (i := 10) (N := some 32) (v := ?_) (a' := ?_) zc11 rfl rfl (any_of HT_.out (by kernel_rfl)) (fun _ _ _ h => h) (Or.inl ⟨by rfl, ?_⟩) ?_ ?_
           rotate_left
           ·intro w'
            go_simp
            with_reducible rfl
           rotate_left
           ·simp only [Act.put, zT, zZ, zU, i64_w, i32_w]
            rfl
           refine pure_ (i := 11) (N := some 33) (v := ?_) (a' := ?_) zc12 rfl rfl (any_of HT_.out (by kernel_rfl)) (fun _ _ _ h => h) (Or.inl ⟨by rfl, ?_⟩) ?_ ?_
           rotate_left
           ·intro w'
            go_simp
            with_reducible rfl
           rotate_left
           ·simp only [Act.put, zT, zZ, zU, i64_w, i32_w]
            rfl
           refine pure_ (i := 12) (N := some 34) (v := ?_) (a' := ?_) zc13 rfl rfl (any_of HT_.out (by kernel_rfl)) (fun _ _ _ h => h) (Or.inl ⟨by rfl, ?_⟩) ?_ ?_
           rotate_left
           ·intro w'
            go_simp
            with_reducible rfl
           rotate_left
           ·simp only [Act.put, zT, zZ, zU, i64_w, i32_w]
            rfl
           refine pure_ (i := 13) (N := some 35) (v := ?_) (a' := ?_) zc14 rfl rfl (any_of HT_.out (by kernel_rfl)) (fun _ _ _ h => h) (Or.inl ⟨by rfl, ?_⟩) ?_ ?_
           rotate_left
           ·intro w'
            go_simp
            with_reducible rfl
           rotate_left
           ·simp only [Act.put, zT, zZ, zU, i64_w, i32_w]
            rfl
           refine pure_ (i := 14) (N := some 36) (v := ?_) (a' := ?_) zc15 rfl rfl (any_of HT_.out (by kernel_rfl)) (fun _ _ _ h => h) (Or.inl ⟨by rfl, ?_⟩) ?_ ?_
           rotate_left
           ·intro w'
            go_simp
            with_reducible rfl
           rotate_left
           ·simp only [Act.put, zT, zZ, zU, i64_w, i32_w]
            rfl
           refine pure_ (i := 16) (N := some 38) (v := ?_) (a' := ?_) zc16 rfl rfl (any_of HT_.out (by kernel_rfl)) (fun _ _ _ h => h) (Or.inl ⟨by rfl, ?_⟩) ?_ ?_
           rotate_left
           ·intro w'
            go_simp
            with_reducible rfl
           rotate_left
           ·simp only [Act.put, zT, zZ, zU, i64_w, i32_w]
            rfl
           refine pure_ (i := 17) (N := some 39) (v := ?_) (a' := ?_) zc17 rfl rfl (any_of HT_.out (by kernel_rfl)) (fun _ _ _ h => h) (Or.inl ⟨by rfl, ?_⟩) ?_ ?_
           rotate_left
           ·intro w'
            go_simp
            with_reducible rfl
           rotate_left
           ·simp only [Act.put, zT, zZ, zU, i64_w, i32_w]
            rfl
           refine pure_ (i := 18) (N := some 40) (v := ?_) (a' := ?_) zc18 rfl rfl (any_of HT_.out (by kernel_rfl)) (fun _ _ _ h => h) (Or.inl ⟨by rfl, ?_⟩) ?_ ?_
           rotate_left
           ·intro w'
            go_simp
            with_reducible rfl
           rotate_left
           ·simp only [Act.put, zT, zZ, zU, i64_w, i32_w]
            rfl
           refine pure_ (i := 20) (N := some 42) (v := ?_) (a' := ?_) zc19 rfl rfl (any_of HT_.out (by kernel_rfl)) (fun _ _ _ h => h) (Or.inl ⟨by rfl, ?_⟩) ?_ ?_
           rotate_left
           ·intro w'
            go_simp
            with_reducible rfl
           rotate_left
           ·simp only [Act.put, zT, zZ, zU, i64_w, i32_w]
            rfl
           refine take_ (i := 15) (N := some 37) (v := ?_) (a' := ?_) zc20 rfl rfl (take_ofW HT_.out HW_.out (by kernel_rfl)) (fun _ _ _ h => h) (Or.inl ⟨by rfl, ?_⟩) hHeld ?_ ?_
           rotate_left
           ·rintro w' ⟨s0, s1, s2⟩
            go_simp
            with_reducible rfl
           rotate_left
           ·simp only [Act.put, zT, zZ, zU, i64_w, i32_w]
            rfl
           refine one_ (i := 19) (N := some 41) zc21 rfl rfl (one_of HT_.out (by kernel_rfl)) (by decide) (fun K hK => ?_)
           refine goes_ Tryd.func17 (by kernel_rfl) rfl #[.bool a0, .int .u64 a1_0, .int .i64 (wrap64 ((-1) - (Go.bits .and .i64 a2 63))), .int .u64 (Go.bits .or .u64 a1_1 1)] (by rfl) rfl rfl (by (try simp only [zY, List.map_cons, List.map_nil]); first | done | rfl | (simp only [zV, zX]; rfl)) ?_
           with_reducible refine (record_Beside.calls kj3 a0 a1_0 (wrap64 ((-1) - (Go.bits .and .i64 a2 63))) (Go.bits .or .u64 a1_1 1) t292 _ A15.out).mono ?_
           rintro e w32 ⟨rfl, hb⟩
           refine ⟨_, rfl, ?_⟩
           have n0_ := zM (zB (g := gb287) (o := .cells #[.int .u64 a1_0, .int .u64 a1_1, .int .u64 a1_2] 36 (0, 0)) (by (with_reducible repeat (first | refine zN ?_ _ | refine zD ?_ | refine zA ?_ _)); exact BK287.out) hb)
           have n1_ := zM (below_step (by repeat (first | (with_reducible first | exact HB.out | apply zL | apply zP | apply zW | refine zS ?_ GE287.out) | exact HB.out)) hb)
           clear BK287
           clear HB
           have BK287 := n0_
           have HB := n1_
           clear n0_ n1_
           (try clear hb)
           (try clear hb2)
           (try clear hk)
           (try clear hi)
           refine hK.out _ _ ⟨(zC BK287.out 0).trans rfl, (zC BK287.out 1).trans rfl, (zC BK287.out 2).trans rfl⟩ (fun hHeld => ?_)
           clear hK K
           refine norm_ (a' := ?_) ?_ ?_
           rotate_left
           ·show Act.put _ (some 41) _ = _
            simp only [Act.put, zT, zZ, zU, i64_w, i32_w]
            rfl
           refine pure_ (i := 21) (N := some 43) (v := ?_) (a' := ?_) zc22 rfl rfl (any_of HT_.out (by kernel_rfl)) (fun _ _ _ h => h) (Or.inl ⟨by rfl, ?_⟩) ?_ ?_
           rotate_left
           ·intro w'
            go_simp
            with_reducible rfl
           rotate_left
           ·simp only [Act.put, zT, zZ, zU, i64_w, i32_w]
            rfl
           refine pure_ (i := 22) (N := some 44) (v := ?_) (a' := ?_) zc23 rfl rfl (any_of HT_.out (by kernel_rfl)) (fun _ _ _ h => h) (Or.inl ⟨by rfl, ?_⟩) ?_ ?_
           rotate_left
           ·intro w'
            go_simp
            with_reducible rfl
           rotate_left
           ·simp only [Act.put, zT, zZ, zU, i64_w, i32_w]
            rfl
           refine pure_ (i := 23) (N := some 45) (v := ?_) (a' := ?_) zc24 rfl rfl (any_of HT_.out (by kernel_rfl)) (fun _ _ _ h => h) (Or.inl ⟨by rfl, ?_⟩) ?_ ?_
           rotate_left
           ·intro w'
            go_simp
            with_reducible rfl
           rotate_left
           ·simp only [Act.put, zT, zZ, zU, i64_w, i32_w]
            rfl
           refine pure_ (i := 24) (N := some 46) (v := ?_) (a' := ?_) zc25 rfl rfl (any_of HT_.out (by kernel_rfl)) (fun _ _ _ h => h) (Or.inl ⟨by rfl, ?_⟩) ?_ ?_
           rotate_left
           ·intro w'
            go_simp
            with_reducible rfl
           rotate_left
           ·simp only [Act.put, zT, zZ, zU, i64_w, i32_w]
            rfl
           refine pure_ (i := 25) (N := some 47) (v := ?_) (a' := ?_) zc26 rfl rfl (any_of HT_.out (by kernel_rfl)) (fun _ _ _ h => h) (Or.inl ⟨by rfl, ?_⟩) ?_ ?_
           rotate_left
           ·intro w'
            go_simp
            with_reducible rfl
           rotate_left
           ·simp only [Act.put, zT, zZ, zU, i64_w, i32_w]
            rfl
           refine pure_ (i := 27) (N := some 49) (v := ?_) (a' := ?_) zc27 rfl rfl (any_of HT_.out (by kernel_rfl)) (fun _ _ _ h => h) (Or.inl ⟨by rfl, ?_⟩) ?_ ?_
           rotate_left
           ·intro w'
            go_simp
            with_reducible rfl
           rotate_left
           ·simp only [Act.put, zT, zZ, zU, i64_w, i32_w]
            rfl
           refine pure_ (i := 29) (N := some 51) (v := ?_) (a' := ?_) zc28 rfl rfl (any_of HT_.out (by kernel_rfl)) (fun _ _ _ h => h) (Or.inl ⟨by rfl, ?_⟩) ?_ ?_
           rotate_left
           ·intro w'
            go_simp
            with_reducible rfl
           rotate_left
           ·simp only [Act.put, zT, zZ, zU, i64_w, i32_w]
            rfl
           refine pure_ (i := 30) (N := some 52) (v := ?_) (a' := ?_) zc29 rfl rfl (any_of HT_.out (by kernel_rfl)) (fun _ _ _ h => h) (Or.inl ⟨by rfl, ?_⟩) ?_ ?_
           rotate_left
           ·intro w'
            go_simp
            with_reducible rfl
           rotate_left
           ·simp only [Act.put, zT, zZ, zU, i64_w, i32_w]
            rfl
           refine pure_ (i := 31) (N := some 53) (v := ?_) (a' := ?_) zc30 rfl rfl (any_of HT_.out (by kernel_rfl)) (fun _ _ _ h => h) (Or.inl ⟨by rfl, ?_⟩) ?_ ?_
           rotate_left
           ·intro w'
            go_simp
            with_reducible rfl
           rotate_left
           ·simp only [Act.put, zT, zZ, zU, i64_w, i32_w]
            rfl
           refine take_ (i := 26) (N := some 48) (v := ?_) (a' := ?_) zc31 rfl rfl (take_ofW HT_.out HW_.out (by kernel_rfl)) (fun _ _ _ h => h) (Or.inl ⟨by rfl, ?_⟩) hHeld ?_ ?_
           rotate_left
           ·rintro w' ⟨s0, s1, s2⟩
            go_simp
            with_reducible rfl
           rotate_left
           ·simp only [Act.put, zT, zZ, zU, i64_w, i32_w]
            rfl
           refine one_ (i := 28) (N := some 50) zc32 rfl rfl (one_of HT_.out (by kernel_rfl)) (by decide) (fun K hK => ?_)
           refine goes_ Tryd.func17 (by kernel_rfl) rfl #[.bool a0, .int .u64 a1_0, .int .i64 (Go.bits .and .i64 a2 63), .int .u64 0] (by rfl) rfl rfl (by (try simp only [zY, List.map_cons, List.map_nil]); first | done | rfl | (simp only [zV, zX]; rfl)) ?_
           with_reducible refine (record_Beside.calls kj3 a0 a1_0 (Go.bits .and .i64 a2 63) 0 t293 _ A17.out).mono ?_
           rintro e w33 ⟨rfl, hb⟩
           refine ⟨_, rfl, ?_⟩
           have n0_ := zM (zB (g := gb287) (o := .cells #[.int .u64 a1_0, .int .u64 a1_1, .int .u64 a1_2] 36 (0, 0)) (by (with_reducible repeat (first | refine zN ?_ _ | refine zD ?_ | refine zA ?_ _)); exact BK287.out) hb)
           have n1_ := zM (below_step (by repeat (first | (with_reducible first | exact HB.out | apply zL | apply zP | apply zW | refine zS ?_ GE287.out) | exact HB.out)) hb)
           clear BK287
           clear HB
           have BK287 := n0_
           have HB := n1_
           clear n0_ n1_
           (try clear hb)
           (try clear hb2)
           (try clear hk)
           (try clear hi)
           refine hK.out _ _ ⟨(zC BK287.out 0).trans rfl, (zC BK287.out 1).trans rfl, (zC BK287.out 2).trans rfl⟩ (fun hHeld => ?_)
           clear hK K
           refine norm_ (a' := ?_) ?_ ?_
           rotate_left
           ·show Act.put _ (some 50) _ = _
            simp only [Act.put, zT, zZ, zU, i64_w, i32_w]
            rfl
           refine one_ (i := 32) (N := some 54) zc33 rfl rfl (one_of HT_.out (by kernel_rfl)) (by decide) (fun K hK => ?_)
           refine goes_ Tryd.func14 (by kernel_rfl) rfl #[.int .u64 (IntKind.u64.wrap (Go.bits .and .i64 a2 63))] (by rfl) rfl rfl (by (try simp only [zY, List.map_cons, List.map_nil]); first | done | rfl | (simp only [zV, zX]; rfl)) ?_
           with_reducible refine (lodestoneref05_Num.calls kj3 (IntKind.u64.wrap (Go.bits .and .i64 a2 63)) t294 _ A18.out).mono ?_
           rintro e w34 ⟨rfl, hb⟩
           refine ⟨_, rfl, ?_⟩
           have n0_ := zM (zB (g := gb287) (o := .cells #[.int .u64 a1_0, .int .u64 a1_1, .int .u64 a1_2] 36 (0, 0)) (by (with_reducible repeat (first | refine zN ?_ _ | refine zD ?_ | refine zA ?_ _)); exact BK287.out) hb)
           have n1_ := zM (below_step (by repeat (first | (with_reducible first | exact HB.out | apply zL | apply zP | apply zW | refine zS ?_ GE287.out) | exact HB.out)) hb)
           clear BK287
           clear HB
           have BK287 := n0_
           have HB := n1_
           clear n0_ n1_
           (try clear hb)
           (try clear hb2)
           (try clear hk)
           (try clear hi)
           refine hK.out _ _ ⟨(zC BK287.out 0).trans rfl, (zC BK287.out 1).trans rfl, (zC BK287.out 2).trans rfl⟩ (fun hHeld => ?_)
           clear hK K
           refine norm_ (a' := ?_) ?_ ?_
           rotate_left
           ·show Act.put _ (some 54) _ = _
            simp only [Act.put, zT, zZ, zU, i64_w, i32_w]
            rfl
           refine pure_ (i := 33) (N := some 55) (v := ?_) (a' := ?_) zc34 rfl rfl (any_of HT_.out (by kernel_rfl)) (fun _ _ _ h => h) (Or.inl ⟨by rfl, ?_⟩) ?_ ?_
           rotate_left
           ·intro w'
            go_simp
            with_reducible rfl
           rotate_left
           ·simp only [Act.put, zT, zZ, zU, i64_w, i32_w]
            rfl
           refine pure_ (i := 34) (N := some 56) (v := ?_) (a' := ?_) zc35 rfl rfl (any_of HT_.out (by kernel_rfl)) (fun _ _ _ h => h) (Or.inl ⟨by rfl, ?_⟩) ?_ ?_
           rotate_left
           ·intro w'
            go_simp
            with_reducible rfl
           rotate_left
           ·simp only [Act.put, zT, zZ, zU, i64_w, i32_w]
            rfl
           refine pure_ (i := 35) (N := some 57) (v := ?_) (a' := ?_) zc36 rfl rfl (any_of HT_.out (by kernel_rfl)) (fun _ _ _ h => h) (Or.inl ⟨by rfl, ?_⟩) ?_ ?_
           rotate_left
           ·intro w'
            go_simp
            with_reducible rfl
           rotate_left
           ·simp only [Act.put, zT, zZ, zU, i64_w, i32_w]
            rfl
           refine pure_ (i := 36) (N := some 58) (v := ?_) (a' := ?_) zc37 rfl rfl (any_of HT_.out (by kernel_rfl)) (fun _ _ _ h => h) (Or.inl ⟨by rfl, ?_⟩) ?_ ?_
           rotate_left
           ·intro w'
            go_simp
            with_reducible rfl
           rotate_left
           ·simp only [Act.put, zT, zZ, zU, i64_w, i32_w]
            rfl
           refine pure_ (i := 37) (N := some 59) (v := ?_) (a' := ?_) zc38 rfl rfl (any_of HT_.out (by kernel_rfl)) (fun _ _ _ h => h) (Or.inl ⟨by rfl, ?_⟩) ?_ ?_
           rotate_left
           ·intro w'
            go_simp
            with_reducible rfl
           rotate_left
           ·simp only [Act.put, zT, zZ, zU, i64_w, i32_w]
            rfl
           refine pure_ (i := 38) (N := some 60) (v := ?_) (a' := ?_) zc39 rfl rfl (any_of HT_.out (by kernel_rfl)) (fun _ _ _ h => h) (Or.inl ⟨by rfl, ?_⟩) ?_ ?_
           rotate_left
           ·intro w'
            go_simp
            with_reducible rfl
           rotate_left
           ·simp only [Act.put, zT, zZ, zU, i64_w, i32_w]
            rfl
           refine pure_ (i := 40) (N := some 62) (v := ?_) (a' := ?_) zc40 rfl rfl (any_of HT_.out (by kernel_rfl)) (fun _ _ _ h => h) (Or.inl ⟨by rfl, ?_⟩) ?_ ?_
           rotate_left
           ·intro w'
            go_simp
            with_reducible rfl
           rotate_left
           ·simp only [Act.put, zT, zZ, zU, i64_w, i32_w]
            rfl
           refine pure_ (i := 41) (N := some 63) (v := ?_) (a' := ?_) zc41 rfl rfl (any_of HT_.out (by kernel_rfl)) (fun _ _ _ h => h) (Or.inl ⟨by rfl, ?_⟩) ?_ ?_
           rotate_left
           ·intro w'
            go_simp
            with_reducible rfl
           rotate_left
           ·simp only [Act.put, zT, zZ, zU, i64_w, i32_w]
            rfl
           refine pure_ (i := 43) (N := some 65) (v := ?_) (a' := ?_) zc42 rfl rfl (any_of HT_.out (by kernel_rfl)) (fun _ _ _ h => h) (Or.inl ⟨by rfl, ?_⟩) ?_ ?_
           rotate_left
           ·intro w'
            go_simp
            with_reducible rfl
           rotate_left
           ·simp only [Act.put, zT, zZ, zU, i64_w, i32_w]
            rfl
           refine pure_ (i := 44) (N := some 66) (v := ?_) (a' := ?_) zc43 rfl rfl (any_of HT_.out (by kernel_rfl)) (fun _ _ _ h => h) (Or.inl ⟨by rfl, ?_⟩) ?_ ?_
           rotate_left
           ·intro w'
            go_simp
            with_reducible rfl
           rotate_left
           ·simp only [Act.put, zT, zZ, zU, i64_w, i32_w]
            rfl
           refine pure_ (i := 45) (N := some 67) (v := ?_) (a' := ?_) zc44 rfl rfl (any_of HT_.out (by kernel_rfl)) (fun _ _ _ h => h) (Or.inl ⟨by rfl, ?_⟩) ?_ ?_
           rotate_left
           ·intro w'
            go_simp
            with_reducible rfl
           rotate_left
           ·simp only [Act.put, zT, zZ, zU, i64_w, i32_w]
            rfl
           refine pure_ (i := 48) (N := some 70) (v := ?_) (a' := ?_) zc45 rfl rfl (any_of HT_.out (by kernel_rfl)) (fun _ _ _ h => h) (Or.inl ⟨by rfl, ?_⟩) ?_ ?_
           rotate_left
           ·intro w'
            go_simp
            with_reducible rfl
           rotate_left
           ·simp only [Act.put, zT, zZ, zU, i64_w, i32_w]
            rfl
           refine take_ (i := 39) (N := some 61) (v := ?_) (a' := ?_) zc46 rfl rfl (take_ofW HT_.out HW_.out (by kernel_rfl)) (fun _ _ _ h => h) (Or.inl ⟨by rfl, ?_⟩) hHeld ?_ ?_
           rotate_left
           ·rintro w' ⟨s0, s1, s2⟩
            go_simp
            with_reducible rfl
           rotate_left
           ·simp only [Act.put, zT, zZ, zU, i64_w, i32_w]
            rfl
           refine one_ (i := 42) (N := some 64) zc47 rfl rfl (one_of HT_.out (by kernel_rfl)) (by decide) (fun K hK => ?_)
           refine goes_ Tryd.func17 (by kernel_rfl) rfl #[.bool a0, .int .u64 a1_0, .int .i64 (Go.bits .and .i64 a2 63), .int .u64 (Go.bits .or .u64 a1_1 1)] (by rfl) rfl rfl (by (try simp only [zY, List.map_cons, List.map_nil]); first | done | rfl | (simp only [zV, zX]; rfl)) ?_
           with_reducible refine (record_Beside.calls kj3 a0 a1_0 (Go.bits .and .i64 a2 63) (Go.bits .or .u64 a1_1 1) t295 _ A21.out).mono ?_
           rintro e w35 ⟨rfl, hb⟩
           refine ⟨_, rfl, ?_⟩
           have n0_ := zM (zB (g := gb287) (o := .cells #[.int .u64 a1_0, .int .u64 a1_1, .int .u64 a1_2] 36 (0, 0)) (by (with_reducible repeat (first | refine zN ?_ _ | refine zD ?_ | refine zA ?_ _)); exact BK287.out) hb)
           have n1_ := zM (below_step (by repeat (first | (with_reducible first | exact HB.out | apply zL | apply zP | apply zW | refine zS ?_ GE287.out) | exact HB.out)) hb)
           clear BK287
           clear HB
           have BK287 := n0_
           have HB := n1_
           clear n0_ n1_
           (try clear hb)
           (try clear hb2)
           (try clear hk)
           (try clear hi)
           refine hK.out _ _ ⟨(zC BK287.out 0).trans rfl, (zC BK287.out 1).trans rfl, (zC BK287.out 2).trans rfl⟩ (fun hHeld => ?_)
           clear hK K
           refine norm_ (a' := ?_) ?_ ?_
           rotate_left
           ·show Act.put _ (some 64) _ = _
            simp only [Act.put, zT, zZ, zU, i64_w, i32_w]
            rfl
           refine one_ (i := 46) (N := some 68) zc48 rfl rfl (one_of HT_.out (by kernel_rfl)) (by decide) (fun K hK => ?_)
           refine goes_ Tryd.func14 (by kernel_rfl) rfl #[.int .u64 (IntKind.u64.wrap (Go.bits .and .i64 a2 63))] (by rfl) rfl rfl (by (try simp only [zY, List.map_cons, List.map_nil]); first | done | rfl | (simp only [zV, zX]; rfl)) ?_
           with_reducible refine (lodestoneref05_Num.calls kj3 (IntKind.u64.wrap (Go.bits .and .i64 a2 63)) t296 _ A22.out).mono ?_
           rintro e w36 ⟨rfl, hb⟩
           refine ⟨_, rfl, ?_⟩
           have n0_ := zM (zB (g := gb287) (o := .cells #[.int .u64 a1_0, .int .u64 a1_1, .int .u64 a1_2] 36 (0, 0)) (by (with_reducible repeat (first | refine zN ?_ _ | refine zD ?_ | refine zA ?_ _)); exact BK287.out) hb)
           have n1_ := zM (below_step (by repeat (first | (with_reducible first | exact HB.out | apply zL | apply zP | apply zW | refine zS ?_ GE287.out) | exact HB.out)) hb)
           clear BK287
           clear HB
           have BK287 := n0_
           have HB := n1_
           clear n0_ n1_
           (try clear hb)
           (try clear hb2)
           (try clear hk)
           (try clear hi)
           refine hK.out _ _ ⟨(zC BK287.out 0).trans rfl, (zC BK287.out 1).trans rfl, (zC BK287.out 2).trans rfl⟩ (fun hHeld => ?_)
           clear hK K
           refine norm_ (a' := ?_) ?_ ?_
           rotate_left
           ·show Act.put _ (some 68) _ = _
            simp only [Act.put, zT, zZ, zU, i64_w, i32_w]
            rfl
           refine pure_ (i := 47) (N := some 69) (v := ?_) (a' := ?_) zc49 rfl rfl (any_of HT_.out (by kernel_rfl)) (fun _ _ _ h => h) (Or.inl ⟨by rfl, ?_⟩) ?_ ?_
           rotate_left
           ·intro w'
            go_simp
            with_reducible rfl
           rotate_left
           ·simp only [Act.put, zT, zZ, zU, i64_w, i32_w]
            rfl
           refine one_ (i := 49) (N := some 71) zc50 rfl rfl (one_of HT_.out (by kernel_rfl)) (by decide) (fun K hK => ?_)
           refine goes_ Tryd.func14 (by kernel_rfl) rfl #[.int .u64 (Go.bits .or .u64 a1_1 1)] (by rfl) rfl rfl (by (try simp only [zY, List.map_cons, List.map_nil]); first | done | rfl | (simp only [zV, zX]; rfl)) ?_
           with_reducible refine (lodestoneref05_Num.calls kj3 (Go.bits .or .u64 a1_1 1) t297 _ A24.out).mono ?_
           rintro e w37 ⟨rfl, hb⟩
           refine ⟨_, rfl, ?_⟩
           have n0_ := zM (zB (g := gb287) (o := .cells #[.int .u64 a1_0, .int .u64 a1_1, .int .u64 a1_2] 36 (0, 0)) (by (with_reducible repeat (first | refine zN ?_ _ | refine zD ?_ | refine zA ?_ _)); exact BK287.out) hb)
           have n1_ := zM (below_step (by repeat (first | (with_reducible first | exact HB.out | apply zL | apply zP | apply zW | refine zS ?_ GE287.out) | exact HB.out)) hb)
           clear BK287
           clear HB
           have BK287 := n0_
           have HB := n1_
           clear n0_ n1_
           (try clear hb)
           (try clear hb2)
           (try clear hk)
           (try clear hi)
           refine hK.out _ _ ⟨(zC BK287.out 0).trans rfl, (zC BK287.out 1).trans rfl, (zC BK287.out 2).trans rfl⟩ (fun hHeld => ?_)
           clear hK K
           refine norm_ (a' := ?_) ?_ ?_
           rotate_left
           ·show Act.put _ (some 71) _ = _
            simp only [Act.put, zT, zZ, zU, i64_w, i32_w]
            rfl
           refine pure_ (i := 50) (N := some 72) (v := ?_) (a' := ?_) zc51 rfl rfl (any_of HT_.out (by kernel_rfl)) (fun _ _ _ h => h) (Or.inl ⟨by rfl, ?_⟩) ?_ ?_
           rotate_left
           ·intro w'
            go_simp
            with_reducible rfl
           rotate_left
           ·simp only [Act.put, zT, zZ, zU, i64_w, i32_w]
            rfl
           refine pure_ (i := 51) (N := some 73) (v := ?_) (a' := ?_) zc52 rfl rfl (any_of HT_.out (by kernel_rfl)) (fun _ _ _ h => h) (Or.inl ⟨by rfl, ?_⟩) ?_ ?_
           rotate_left
           ·intro w'
            go_simp
            with_reducible rfl
           rotate_left
           ·simp only [Act.put, zT, zZ, zU, i64_w, i32_w]
            rfl
           refine pure_ (i := 52) (N := some 74) (v := ?_) (a' := ?_) zc53 rfl rfl (any_of HT_.out (by kernel_rfl)) (fun _ _ _ h => h) (Or.inl ⟨by rfl, ?_⟩) ?_ ?_
           rotate_left
           ·intro w'
            go_simp
            with_reducible rfl
           rotate_left
           ·simp only [Act.put, zT, zZ, zU, i64_w, i32_w]
            rfl
           refine pure_ (i := 53) (N := some 6) (v := ?_) (a' := ?_) zc54 rfl rfl (any_of HT_.out (by kernel_rfl)) (fun _ _ _ h => h) (Or.inl ⟨by rfl, ?_⟩) ?_ ?_
           rotate_left
           ·intro w'
            go_simp
            with_reducible rfl
           rotate_left
           ·simp only [Act.put, zT, zZ, zU, i64_w, i32_w]
            rfl
           refine done_ (done_of HT_.out (by kernel_rfl)) ?_
           try go_wp2
           go_ret
           exact ⟨by first | rfl | (simp [errW_none, errW_some] <;> rfl) | (simp [*, errW_none, errW_some] <;> rfl), by repeat (first | (with_reducible first | exact HB.out | apply zL | apply zP | apply zW | refine zS ?_ GE287.out) | exact HB.out)⟩
          ·rw [if_neg c25] at H
           exact absurd H (by simp)
         ·rw [if_neg c23] at H
          exact absurd H (by simp)
        ·rw [if_neg c20] at H
         have c20b0 : (t293.toList == ((x7_3 ++ t288) ++ t294).toList) = false := beq_eq_false_iff_ne.mpr c20
         have c20b1 : (t293.toList != ((x7_3 ++ t288) ++ t294).toList) = true := bne_iff_ne.mpr c20
         exact absurd (H.trans (congrArg some HR_.out)) (by simp)
       ·rw [if_neg c19] at H
        exact absurd H (by simp)
      ·rw [if_neg c16] at H
       have c16b0 : (t292.toList == (x7_3 ++ t288).toList) = false := beq_eq_false_iff_ne.mpr c16
       have c16b1 : (t292.toList != (x7_3 ++ t288).toList) = true := bne_iff_ne.mpr c16
       exact absurd (H.trans (congrArg some HR_.out)) (by simp)
     ·rw [if_neg c14] at H
      have c14b0 : (t290.toList == t291.toList) = false := beq_eq_false_iff_ne.mpr c14
      have c14b1 : (t290.toList != t291.toList) = true := bne_iff_ne.mpr c14
      exact absurd (H.trans (congrArg some HR_.out)) (by simp)
    ·replace c11 := Bool.eq_false_iff.mpr c11
     subst c11
     have H1 : (some false) = some r := by rw [if_neg (show ¬ (false = true) by decide)] at H; exact H
     clear H
     have H := H1
     clear H1
     exact absurd (H.trans (congrArg some HR_.out)) (by simp)
   ·rw [if_neg c9] at H
    exact absurd H (by simp)

end Go.Proofs.YtgghakjleihgaaaDoor.PRecordKeys
