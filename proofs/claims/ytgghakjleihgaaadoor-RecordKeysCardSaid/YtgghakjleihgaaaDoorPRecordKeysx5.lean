-- Written by a program of this session's (the kit's print, with additions of my own). Not trusted: Lean checks it.
import Derived.Test.YtgghakjleihgaaaDoorPRecordKeysx0
import Derived.Test.YtgghakjleihgaaaDoorPRecordKeysx3
import Derived.Test.YtgghakjleihgaaaDoorPRecordKeysx4
import Derived.Test.YtgghakjleihgaaaDoorXB
namespace Go.Proofs.YtgghakjleihgaaaDoor.PRecordKeys
open Go.RowKit Go.Proofs.YtgghakjleihgaaaDoorW.PrintWords Go.Proofs.YtgghakjleihgaaaDoorW.PrintLast Go.Proofs.YtgghakjleihgaaaDoorW.PrintMore
open Go.Proofs.YtgghakjleihgaaaDoorW.PrintWords renaming blk_drewN → zN, blk_drew → zD, blk_alloc → zA, blk_cell → zC, blk_frozen → zF, below_set → zS, below_alloc → zL, below_drew1 → zW, pw_below_drewN → zP, blk_below → zB, keep_drewN → zK
open Go.Proofs.YtgghakjleihgaaaDoorW.PrintWords.Aside0 renaming mk → zM
open List renaming setIfInBounds_toArray → zT, set_cons_zero → zZ, set_cons_succ → zU, length_drop → zV, length_take → zX, map_toArray → zY
attribute [local go_sem] max2_int min2_int max_two min_two max_three min_three max_four min_four   -- for this text's walks alone
set_option linter.unusedVariables false
set_option linter.unusedSimpArgs false
abbrev zb5_0 : Array Bool := #[false, false, false, false, false, false, false, false, false, false, false, false, false, false, false]
abbrev zb5_1 : Array Bool := #[true, false, false, false, false, false, false, false, false, false, false, false, false, false, false]
abbrev zb5_2 : Array Bool := #[true, true, false, false, false, false, false, false, false, false, false, false, false, false, false]
abbrev zb5_3 : Array Bool := #[true, true, false, false, false, true, false, false, false, false, false, false, false, false, false]
abbrev zb5_4 : Array Bool := #[true, true, false, false, false, true, false, false, false, true, false, false, false, false, false]
abbrev zb5_5 : Array Bool := #[true, true, true, false, false, true, false, false, false, true, false, false, false, false, false]
abbrev zb5_6 : Array Bool := #[true, true, true, true, false, true, false, false, false, true, false, false, false, false, false]
abbrev zb5_7 : Array Bool := #[true, true, true, true, false, true, true, false, false, true, false, false, false, false, false]
abbrev zb5_8 : Array Bool := #[true, true, true, true, false, true, true, false, false, true, true, false, false, false, false]
abbrev zb5_9 : Array Bool := #[true, true, true, true, true, true, true, false, false, true, true, false, false, false, false]
abbrev zb5_10 : Array Bool := #[true, true, true, true, true, true, true, true, false, true, true, false, false, false, false]
abbrev zb5_11 : Array Bool := #[true, true, true, true, true, true, true, true, true, true, true, false, false, false, false]
abbrev zb5_12 : Array Bool := #[true, true, true, true, true, true, true, true, true, true, true, true, false, false, false]
abbrev zb5_13 : Array Bool := #[true, true, true, true, true, true, true, true, true, true, true, true, true, false, false]
abbrev zb5_14 : Array Bool := #[true, true, true, true, true, true, true, true, true, true, true, true, true, true, false]
abbrev zb5_15 : Array Bool := #[true, true, true, true, true, true, true, true, true, true, true, true, true, true, true]
abbrev zb5_16 : Array Bool := #[false, false, false, false, false, false, false, false, false, false, false]
abbrev zb5_17 : Array Bool := #[true, false, false, false, false, false, false, false, false, false, false]
abbrev zb5_18 : Array Bool := #[true, true, false, false, false, false, false, false, false, false, false]
abbrev zb5_19 : Array Bool := #[true, true, false, false, false, true, false, false, false, false, false]
abbrev zb5_20 : Array Bool := #[true, true, true, false, false, true, false, false, false, false, false]
abbrev zb5_21 : Array Bool := #[true, true, true, true, false, true, false, false, false, false, false]
abbrev zb5_22 : Array Bool := #[true, true, true, true, false, true, true, false, false, false, false]
abbrev zb5_23 : Array Bool := #[true, true, true, true, true, true, true, false, false, false, false]
abbrev zb5_24 : Array Bool := #[true, true, true, true, true, true, true, true, false, false, false]
abbrev zb5_25 : Array Bool := #[true, true, true, true, true, true, true, true, true, false, false]
abbrev zb5_26 : Array Bool := #[true, true, true, true, true, true, true, true, true, true, false]
abbrev zb5_27 : Array Bool := #[true, true, true, true, true, true, true, true, true, true, true]

/-! ### record_Put: function 7 -/
mutual
def record_Put.j1 : Nat → ByteArray → Bool → List Int → Int → Int → Int → List (S47) → Option (ByteArray)
 | 0, _, _, _, _, _, _, _ => none
 | k + 1, x3, x134000, x134001, x134002, x134003, x134004, x134005 => if x134005.length ≤ 9223372036854775807 then ((code_Num.f k (x134005.length : Int)).bind fun t142 => (if x3.size + t142.size ≤ 9223372036854775807 then (record_Put.l1 k (x3 ++ t142) x134005 (x134005.length : Int) 0) else (none))) else (none)
def record_Put.l1 : Nat → ByteArray → List (S47) → Int → Int → Option (ByteArray)
 | 0, _, _, _, _ => none
 | k + 1, x3, x58, x59, x60 => if x60 < x59 then (if 0 ≤ x60 then (if x60 < (x58.length : Int) then ((code_Num.f k (IntKind.u64.wrap ((rd_T47 x58 x60).f0))).bind fun t145 => ((value_Put.f k ((rd_T47 x58 x60).f1.f0) ((rd_T47 x58 x60).f1.f1) ((rd_T47 x58 x60).f1.f2)).bind fun t146 => (if t145.size + t146.size ≤ 9223372036854775807 then (if x3.size + (t145 ++ t146).size ≤ 9223372036854775807 then (record_Put.l1 k (x3 ++ (t145 ++ t146)) x58 x59 (wrap64 (x60 + 1))) else (none)) else (none)))) else (none)) else (none)) else (if (x3.size : Int) > 4096 then (some (⟨#[]⟩ : ByteArray)) else (some x3))
def record_Put.l0 : Nat → ByteArray → List Int → Int → Int → Bool → List Int → Int → Int → Int → List (S47) → Option (ByteArray)
 | 0, _, _, _, _, _, _, _, _, _, _ => none
 | k + 1, x3, x38, x39, x40, x134000, x134001, x134002, x134003, x134004, x134005 => if x40 < x39 then (if 0 ≤ x40 then (if x40 < (x38.length : Int) then ((code_Num.f k (IntKind.u64.wrap (rd x38 x40))).bind fun t141 => (if x3.size + t141.size ≤ 9223372036854775807 then (record_Put.l0 k (x3 ++ t141) x38 x39 (wrap64 (x40 + 1)) x134000 x134001 x134002 x134003 x134004 x134005) else (none))) else (none)) else (none)) else (record_Put.j1 k x3 x134000 x134001 x134002 x134003 x134004 x134005)
end
def record_Put.f (k : Nat) (a0_0 : Bool) (l0_1 : List Int) (a0_2 : Int) (a0_3 : Int) (a0_4 : Int) (l0_5 : List (S47)) : Option (ByteArray) := (record_May.f k a0_0 l0_1 a0_2 a0_3 a0_4 l0_5).bind fun t134 => (if t134 = true then ((code_Bool.f a0_0).bind fun t135 => (if a0_0 = true then ((code_Num.f k (IntKind.u64.wrap (a0_2))).bind fun t136 => ((code_Num.f k a0_3).bind fun t137 => (if t136.size + t137.size ≤ 9223372036854775807 then ((code_Num.f k a0_4).bind fun t138 => (if (t136 ++ t137).size + t138.size ≤ 9223372036854775807 then (if t135.size + ((t136 ++ t137) ++ t138).size ≤ 9223372036854775807 then (record_Put.j1 k (t135 ++ ((t136 ++ t137) ++ t138)) a0_0 l0_1 a0_2 a0_3 a0_4 l0_5) else (none)) else (none))) else (none)))) else (if l0_1.length ≤ 9223372036854775807 then ((code_Num.f k (l0_1.length : Int)).bind fun t139 => (if t135.size + t139.size ≤ 9223372036854775807 then (record_Put.l0 k (t135 ++ t139) l0_1 (l0_1.length : Int) 0 a0_0 l0_1 a0_2 a0_3 a0_4 l0_5) else (none))) else (none)))) else (some (⟨#[]⟩ : ByteArray)))
theorem record_Put.mono_l : ∀ k, (∀ y0 y1 y2 y3 y4 y5 y6, LeO (record_Put.j1 k y0 y1 y2 y3 y4 y5 y6) (record_Put.j1 (k + 1) y0 y1 y2 y3 y4 y5 y6)) ∧ (∀ y0 y1 y2 y3, LeO (record_Put.l1 k y0 y1 y2 y3) (record_Put.l1 (k + 1) y0 y1 y2 y3)) ∧ (∀ y0 y1 y2 y3 y4 y5 y6 y7 y8 y9, LeO (record_Put.l0 k y0 y1 y2 y3 y4 y5 y6 y7 y8 y9) (record_Put.l0 (k + 1) y0 y1 y2 y3 y4 y5 y6 y7 y8 y9))
 | 0 => ⟨fun _ _ _ _ _ _ _ r h => by simp [record_Put.j1] at h, fun _ _ _ _ r h => by simp [record_Put.l1] at h, fun _ _ _ _ _ _ _ _ _ _ r h => by simp [record_Put.l0] at h⟩
 | k + 1 => by
  obtain ⟨ih0, ih1, ih2⟩ := record_Put.mono_l k
  refine ⟨?_, ?_, ?_⟩
  ·intro y0 y1 y2 y3 y4 y5 y6
   unfold record_Put.j1
   repeat' first
   | (with_reducible exact ih0 _ _ _ _ _ _ _)
   | (with_reducible exact ih1 _ _ _ _)
   | (with_reducible exact ih2 _ _ _ _ _ _ _ _ _ _)
   | (with_reducible exact code_Num.mono _ _)
   | (with_reducible exact record_May.mono _ _ _ _ _ _ _)
   | (with_reducible exact value_Put.mono _ _ _ _)
   | (with_reducible exact LeO.refl _)
   | (with_reducible exact LeO.none _)
   | (with_reducible refine LeO.ite ?_ ?_)
   | (with_reducible refine LeO.bind ?_ (fun _ => ?_))
   | exact ih0 _ _ _ _ _ _ _
   | exact ih1 _ _ _ _
   | exact ih2 _ _ _ _ _ _ _ _ _ _
   | exact code_Num.mono _ _
   | exact record_May.mono _ _ _ _ _ _ _
   | exact value_Put.mono _ _ _ _
   | exact LeO.none _
   | refine LeO.ite ?_ ?_
   | refine LeO.bind ?_ (fun _ => ?_)
  ·intro y0 y1 y2 y3
   unfold record_Put.l1
   repeat' first
   | (with_reducible exact ih0 _ _ _ _ _ _ _)
   | (with_reducible exact ih1 _ _ _ _)
   | (with_reducible exact ih2 _ _ _ _ _ _ _ _ _ _)
   | (with_reducible exact code_Num.mono _ _)
   | (with_reducible exact record_May.mono _ _ _ _ _ _ _)
   | (with_reducible exact value_Put.mono _ _ _ _)
   | (with_reducible exact LeO.refl _)
   | (with_reducible exact LeO.none _)
   | (with_reducible refine LeO.ite ?_ ?_)
   | (with_reducible refine LeO.bind ?_ (fun _ => ?_))
   | exact ih0 _ _ _ _ _ _ _
   | exact ih1 _ _ _ _
   | exact ih2 _ _ _ _ _ _ _ _ _ _
   | exact code_Num.mono _ _
   | exact record_May.mono _ _ _ _ _ _ _
   | exact value_Put.mono _ _ _ _
   | exact LeO.none _
   | refine LeO.ite ?_ ?_
   | refine LeO.bind ?_ (fun _ => ?_)
  ·intro y0 y1 y2 y3 y4 y5 y6 y7 y8 y9
   unfold record_Put.l0
   repeat' first
   | (with_reducible exact ih0 _ _ _ _ _ _ _)
   | (with_reducible exact ih1 _ _ _ _)
   | (with_reducible exact ih2 _ _ _ _ _ _ _ _ _ _)
   | (with_reducible exact code_Num.mono _ _)
   | (with_reducible exact record_May.mono _ _ _ _ _ _ _)
   | (with_reducible exact value_Put.mono _ _ _ _)
   | (with_reducible exact LeO.refl _)
   | (with_reducible exact LeO.none _)
   | (with_reducible refine LeO.ite ?_ ?_)
   | (with_reducible refine LeO.bind ?_ (fun _ => ?_))
   | exact ih0 _ _ _ _ _ _ _
   | exact ih1 _ _ _ _
   | exact ih2 _ _ _ _ _ _ _ _ _ _
   | exact code_Num.mono _ _
   | exact record_May.mono _ _ _ _ _ _ _
   | exact value_Put.mono _ _ _ _
   | exact LeO.none _
   | refine LeO.ite ?_ ?_
   | refine LeO.bind ?_ (fun _ => ?_)
theorem record_Put.mono : ∀ a0 a1 a2 a3 a4 a5 k, LeO (record_Put.f k a0 a1 a2 a3 a4 a5) (record_Put.f (k + 1) a0 a1 a2 a3 a4 a5) := by
 intro a0 a1 a2 a3 a4 a5 k
 obtain ⟨ih0, ih1, ih2⟩ := record_Put.mono_l k
 unfold record_Put.f
 repeat' first
   | (with_reducible exact ih0 _ _ _ _ _ _ _)
   | (with_reducible exact ih1 _ _ _ _)
   | (with_reducible exact ih2 _ _ _ _ _ _ _ _ _ _)
   | (with_reducible exact code_Num.mono _ _)
   | (with_reducible exact record_May.mono _ _ _ _ _ _ _)
   | (with_reducible exact value_Put.mono _ _ _ _)
   | (with_reducible exact LeO.refl _)
   | (with_reducible exact LeO.none _)
   | (with_reducible refine LeO.ite ?_ ?_)
   | (with_reducible refine LeO.bind ?_ (fun _ => ?_))
   | exact ih0 _ _ _ _ _ _ _
   | exact ih1 _ _ _ _
   | exact ih2 _ _ _ _ _ _ _ _ _ _
   | exact code_Num.mono _ _
   | exact record_May.mono _ _ _ _ _ _ _
   | exact value_Put.mono _ _ _ _
   | exact LeO.none _
   | refine LeO.ite ?_ ?_
   | refine LeO.bind ?_ (fun _ => ?_)
def record_Put.T5 : Bool × List (List Nat × List Nat) := (true, [([], []), ([], []), ([1], [1]), ([2], [2]), ([3], [3]), ([], []), ([5], [5]), ([6, 4], [6]), ([4, 7], [4, 7]), ([], []), ([9], [9]), ([10, 7], [10]), ([8, 11], [8, 11]), ([0, 12], [0, 12]), ([13, 11, 0, 1, 2, 3, 4, 5, 6, 7, 8, 9, 10, 11, 12, 13], [0, 13])])
def record_Put.B5 : List Nat := [0, 0, 2, 6, 14, 0, 32, 126, 254, 0, 512, 1790, 4094, 8191, 16383]
theorem record_Put.tab5 : rtab .any (opsOf Tryd.f7 5) = record_Put.T5 := by kernel_rfl
theorem record_Put.bits5 : waitsOk record_Put.T5.2 record_Put.B5 = true := by kernel_rfl
def record_Put.T16 : Bool × List (List Nat × List Nat) := (true, [([], []), ([], []), ([1], [1]), ([2], [2]), ([3], [3]), ([], []), ([5], [5]), ([6, 4], [6]), ([4, 7], [4, 7]), ([0, 8], [0, 8]), ([9, 7, 0, 1, 2, 3, 4, 5, 6, 7, 8, 9], [0, 9])])
def record_Put.B16 : List Nat := [0, 0, 2, 6, 14, 0, 32, 126, 254, 511, 1023]
theorem record_Put.tab16 : rtab .any (opsOf Tryd.f7 16) = record_Put.T16 := by kernel_rfl
theorem record_Put.bits16 : waitsOk record_Put.T16.2 record_Put.B16 = true := by kernel_rfl
set_option maxHeartbeats 8000000 in
set_option maxRecDepth 100000 in
theorem record_Put.calls (k : Nat) (a0_0 : Bool) (A0_1 : Option Addr) (c0_1 : Nat) (l0_1 : List Int) (a0_2 : Int) (a0_3 : Int) (a0_4 : Int) (A0_5 : Option Addr) (c0_5 : Nat) (l0_5 : List (S47)) (r : ByteArray) (w : World) (hr0_1 : Kd.C (Kd.int .i64) w A0_1 l0_1.length l0_1) (hc0_1 : l0_1.length ≤ c0_1) (hr0_5 : Kd.C k47 w A0_5 l0_5.length l0_5) (hc0_5 : l0_5.length ≤ c0_5) (h : record_Put.f k a0_0 l0_1 a0_2 a0_3 a0_4 l0_5 = some r) :
  Calls Tryd.prog 7 #[.agg #[.bool a0_0, .slice A0_1 l0_1.length c0_1, .int .i64 a0_2, .int .u64 a0_3, .int .u64 a0_4, .slice A0_5 l0_5.length c0_5]] w fun e w' => e = .returned (.string r) ∧ Below w.heap.size w w' := by
 have hu26 := Tryd.underlying26
 have hu47 := Tryd.underlying47
 have hu42 := Tryd.underlying42
 have HR0_1 := zM hr0_1
 have HC0_1 := zM hc0_1
 clear hr0_1 hc0_1
 have HR0_5 := zM hr0_5
 have HC0_5 := zM hc0_5
 clear hr0_5 hc0_5
 have HB := zM (Below.refl w.heap.size w)
 have H : ((record_May.f k a0_0 l0_1 a0_2 a0_3 a0_4 l0_5).bind fun t134 => (if t134 = true then ((code_Bool.f a0_0).bind fun t135 => (if a0_0 = true then ((code_Num.f k (IntKind.u64.wrap (a0_2))).bind fun t136 => ((code_Num.f k a0_3).bind fun t137 => (if t136.size + t137.size ≤ 9223372036854775807 then ((code_Num.f k a0_4).bind fun t138 => (if (t136 ++ t137).size + t138.size ≤ 9223372036854775807 then (if t135.size + ((t136 ++ t137) ++ t138).size ≤ 9223372036854775807 then (record_Put.j1 k (t135 ++ ((t136 ++ t137) ++ t138)) a0_0 l0_1 a0_2 a0_3 a0_4 l0_5) else (none)) else (none))) else (none)))) else (if l0_1.length ≤ 9223372036854775807 then ((code_Num.f k (l0_1.length : Int)).bind fun t139 => (if t135.size + t139.size ≤ 9223372036854775807 then (record_Put.l0 k (t135 ++ t139) l0_1 (l0_1.length : Int) 0 a0_0 l0_1 a0_2 a0_3 a0_4 l0_5) else (none))) else (none)))) else (some (⟨#[]⟩ : ByteArray)))) = some r := h
 clear h
 replace H := Option.bind_eq_some_iff.mp H
 obtain ⟨t134, A20, H⟩ := H
 replace H : (if t134 = true then ((code_Bool.f a0_0).bind fun t135 => (if a0_0 = true then ((code_Num.f k (IntKind.u64.wrap (a0_2))).bind fun t136 => ((code_Num.f k a0_3).bind fun t137 => (if t136.size + t137.size ≤ 9223372036854775807 then ((code_Num.f k a0_4).bind fun t138 => (if (t136 ++ t137).size + t138.size ≤ 9223372036854775807 then (if t135.size + ((t136 ++ t137) ++ t138).size ≤ 9223372036854775807 then (record_Put.j1 k (t135 ++ ((t136 ++ t137) ++ t138)) a0_0 l0_1 a0_2 a0_3 a0_4 l0_5) else (none)) else (none))) else (none)))) else (if l0_1.length ≤ 9223372036854775807 then ((code_Num.f k (l0_1.length : Int)).bind fun t139 => (if t135.size + t139.size ≤ 9223372036854775807 then (record_Put.l0 k (t135 ++ t139) l0_1 (l0_1.length : Int) 0 a0_0 l0_1 a0_2 a0_3 a0_4 l0_5) else (none))) else (none)))) else (some (⟨#[]⟩ : ByteArray))) = some r := H
 have A2 := zM A20
 clear A20
 by_cases c3 : t134 = true
 ·subst c3
  have H1 : ((code_Bool.f a0_0).bind fun t135 => (if a0_0 = true then ((code_Num.f k (IntKind.u64.wrap (a0_2))).bind fun t136 => ((code_Num.f k a0_3).bind fun t137 => (if t136.size + t137.size ≤ 9223372036854775807 then ((code_Num.f k a0_4).bind fun t138 => (if (t136 ++ t137).size + t138.size ≤ 9223372036854775807 then (if t135.size + ((t136 ++ t137) ++ t138).size ≤ 9223372036854775807 then (record_Put.j1 k (t135 ++ ((t136 ++ t137) ++ t138)) a0_0 l0_1 a0_2 a0_3 a0_4 l0_5) else (none)) else (none))) else (none)))) else (if l0_1.length ≤ 9223372036854775807 then ((code_Num.f k (l0_1.length : Int)).bind fun t139 => (if t135.size + t139.size ≤ 9223372036854775807 then (record_Put.l0 k (t135 ++ t139) l0_1 (l0_1.length : Int) 0 a0_0 l0_1 a0_2 a0_3 a0_4 l0_5) else (none))) else (none)))) = some r := by rw [if_pos rfl] at H; exact H
  clear H
  have H := H1
  clear H1
  replace H := Option.bind_eq_some_iff.mp H
  obtain ⟨t135, A40, H⟩ := H
  replace H : (if a0_0 = true then ((code_Num.f k (IntKind.u64.wrap (a0_2))).bind fun t136 => ((code_Num.f k a0_3).bind fun t137 => (if t136.size + t137.size ≤ 9223372036854775807 then ((code_Num.f k a0_4).bind fun t138 => (if (t136 ++ t137).size + t138.size ≤ 9223372036854775807 then (if t135.size + ((t136 ++ t137) ++ t138).size ≤ 9223372036854775807 then (record_Put.j1 k (t135 ++ ((t136 ++ t137) ++ t138)) a0_0 l0_1 a0_2 a0_3 a0_4 l0_5) else (none)) else (none))) else (none)))) else (if l0_1.length ≤ 9223372036854775807 then ((code_Num.f k (l0_1.length : Int)).bind fun t139 => (if t135.size + t139.size ≤ 9223372036854775807 then (record_Put.l0 k (t135 ++ t139) l0_1 (l0_1.length : Int) 0 a0_0 l0_1 a0_2 a0_3 a0_4 l0_5) else (none))) else (none))) = some r := H
  have A4 := zM A40
  clear A40
  have HC5 := zM H
  clear H
  go_enter Tryd.func7, Tryd.ntmps7
  go_upto_if 15 with (first | ((with_reducible refine gate_dst (N := 1) rfl ?_); refine box_event ?hg (N := 1) ?hd (cs := #[.bool a0_0, .slice A0_1 l0_1.length c0_1, .int .i64 a0_2, .int .u64 a0_3, .int .u64 a0_4, .slice A0_5 l0_5.length c0_5]) (t := 26) ?hr ?_; (case hd => rfl); (case hg => rfl); (case hr => first | (go_simp; done) | (go_simp; rfl)); intro gb133 hg w6 hbox hb; have n0_ := zM (below_step (by repeat (first | (with_reducible first | exact HB.out | apply zL | apply zP | apply zW) | exact HB.out)) hb); have n1_ := zM (hbox); have n2_ := zM ((by rw [hg]; exact (below_size (by repeat (first | (with_reducible first | exact HB.out | apply zL | apply zP | apply zW) | exact HB.out))) : w.heap.size ≤ gb133)); have n3_ := zM ((by rw [hg]; exact (below_size (by repeat (first | (with_reducible first | exact HB.out | apply zL | apply zP | apply zW) | exact HB.out))) : w.heap.size ≤ gb133)); clear HB; have HB := n0_; have BK133 := n1_; have GW133 := n2_; have GE133 := n3_; clear n0_ n1_ n2_ n3_; clear hb hbox hg; have hcz7_0 : w6.cell? ⟨gb133, 0, none⟩ = some (.bool a0_0) := (zC BK133.out 0).trans rfl; have hcz7_1 : w6.cell? ⟨gb133, 1, none⟩ = some (.slice A0_1 l0_1.length c0_1) := (zC BK133.out 1).trans rfl; have hcz7_2 : w6.cell? ⟨gb133, 2, none⟩ = some (.int .i64 a0_2) := (zC BK133.out 2).trans rfl; have hcz7_3 : w6.cell? ⟨gb133, 3, none⟩ = some (.int .u64 a0_3) := (zC BK133.out 3).trans rfl; have hcz7_4 : w6.cell? ⟨gb133, 4, none⟩ = some (.int .u64 a0_4) := (zC BK133.out 4).trans rfl; have hcz7_5 : w6.cell? ⟨gb133, 5, none⟩ = some (.slice A0_5 l0_5.length c0_5) := (zC BK133.out 5).trans rfl; have hfz7_0 := zF BK133.out 0; have hfz7_1 := zF BK133.out 1; have hfz7_2 := zF BK133.out 2; have hfz7_3 := zF BK133.out 3; have hfz7_4 := zF BK133.out 4; have hfz7_5 := zF BK133.out 5) | ((with_reducible refine gate_callee (f := 11) rfl ?_); refine goesL_ (some 9) rfl rfl Tryd.func11 (by kernel_rfl) rfl #[.agg #[.bool a0_0, .slice A0_1 l0_1.length c0_1, .int .i64 a0_2, .int .u64 a0_3, .int .u64 a0_4, .slice A0_5 l0_5.length c0_5]] rfl (by (try simp only [zY, List.map_cons, List.map_nil]); first | done | rfl | (simp only [zV, zX]; rfl)) ?_; (with_reducible refine (record_May.calls k a0_0 _ _ l0_1 a0_2 a0_3 a0_4 _ _ l0_5 true _ ?side1 ?side2 ?side3 ?side4 A2.out).mono ?_); (case side1 => repeat (first | exact (Kd.C_below HR0_1.out HB.out) | (with_reducible refine Kd.C_alloc ?_ _) | (with_reducible refine Kd.C_drewN ?_ _) | (with_reducible refine Kd.C_drew ?_))); (case side2 => exact HC0_1.out); (case side3 => repeat (first | exact (Kd.C_below HR0_5.out HB.out) | (with_reducible refine Kd.C_alloc ?_ _) | (with_reducible refine Kd.C_drewN ?_ _) | (with_reducible refine Kd.C_drew ?_))); (case side4 => exact HC0_5.out); rintro e w8 ⟨rfl, hb⟩; refine ⟨_, rfl, ?_⟩; have n0_ := zM (zB (g := gb133) (o := .cells #[.bool a0_0, .slice A0_1 l0_1.length c0_1, .int .i64 a0_2, .int .u64 a0_3, .int .u64 a0_4, .slice A0_5 l0_5.length c0_5] 26 (0, 0)) (by (with_reducible repeat (first | refine zN ?_ _ | refine zD ?_ | refine zA ?_ _)); exact BK133.out) hb); have n1_ := zM (below_step (by repeat (first | (with_reducible first | exact HB.out | apply zL | apply zP | apply zW | refine zS ?_ GE133.out) | exact HB.out)) hb); clear BK133; clear HB; have BK133 := n0_; have HB := n1_; clear n0_ n1_; (try clear hb); (try clear hb2); (try clear hk); (try clear hi); have hcz9_0 : w8.cell? ⟨gb133, 0, none⟩ = some (.bool a0_0) := (zC BK133.out 0).trans rfl; have hcz9_1 : w8.cell? ⟨gb133, 1, none⟩ = some (.slice A0_1 l0_1.length c0_1) := (zC BK133.out 1).trans rfl; have hcz9_2 : w8.cell? ⟨gb133, 2, none⟩ = some (.int .i64 a0_2) := (zC BK133.out 2).trans rfl; have hcz9_3 : w8.cell? ⟨gb133, 3, none⟩ = some (.int .u64 a0_3) := (zC BK133.out 3).trans rfl; have hcz9_4 : w8.cell? ⟨gb133, 4, none⟩ = some (.int .u64 a0_4) := (zC BK133.out 4).trans rfl; have hcz9_5 : w8.cell? ⟨gb133, 5, none⟩ = some (.slice A0_5 l0_5.length c0_5) := (zC BK133.out 5).trans rfl; have hfz9_0 := zF BK133.out 0; have hfz9_1 := zF BK133.out 1; have hfz9_2 := zF BK133.out 2; have hfz9_3 := zF BK133.out 3; have hfz9_4 := zF BK133.out 4; have hfz9_5 := zF BK133.out 5) | ((with_reducible refine gate_callee (f := 21) rfl ?_); refine goesL_ (some 13) rfl rfl Tryd.func21 (by kernel_rfl) rfl #[.bool a0_0] rfl (by (try simp only [zY, List.map_cons, List.map_nil]); first | done | rfl | (simp only [zV, zX]; rfl)) ?_; (with_reducible refine (code_Bool.calls a0_0 t135 _ A4.out).mono ?_); rintro e w' ⟨rfl, ⟨nd, rfl⟩⟩; refine ⟨_, rfl, ?_⟩))
  (try simp only [Act.put, zT, zZ, zU])
  go_cut [3] (fun v3 wc => ∃ (kq : Nat) (x3_4 : ByteArray), v3 = .string x3_4 ∧ Aside0 (record_Put.j1 kq x3_4 a0_0 l0_1 a0_2 a0_3 a0_4 l0_5 = some r) ∧ Aside0 (kq ≤ k) ∧ Aside0 (wc.heap[gb133]? = some (.cells #[.bool a0_0, (.slice A0_1 l0_1.length c0_1), .int .i64 a0_2, .int .u64 a0_3, .int .u64 a0_4, (.slice A0_5 l0_5.length c0_5)] 26 (0, 0))) ∧ Aside0 (Below w.heap.size w wc))
  case first =>
   have H := HC5.out
   clear HC5
   by_cases c10 : a0_0 = true
   ·subst c10
    have H1 : ((code_Num.f k (IntKind.u64.wrap (a0_2))).bind fun t136 => ((code_Num.f k a0_3).bind fun t137 => (if t136.size + t137.size ≤ 9223372036854775807 then ((code_Num.f k a0_4).bind fun t138 => (if (t136 ++ t137).size + t138.size ≤ 9223372036854775807 then (if t135.size + ((t136 ++ t137) ++ t138).size ≤ 9223372036854775807 then (record_Put.j1 k (t135 ++ ((t136 ++ t137) ++ t138)) true l0_1 a0_2 a0_3 a0_4 l0_5) else (none)) else (none))) else (none)))) = some r := by rw [if_pos rfl] at H; exact H
    clear H
    have H := H1
    clear H1
    replace H := Option.bind_eq_some_iff.mp H
    obtain ⟨t136, A110, H⟩ := H
    replace H : ((code_Num.f k a0_3).bind fun t137 => (if t136.size + t137.size ≤ 9223372036854775807 then ((code_Num.f k a0_4).bind fun t138 => (if (t136 ++ t137).size + t138.size ≤ 9223372036854775807 then (if t135.size + ((t136 ++ t137) ++ t138).size ≤ 9223372036854775807 then (record_Put.j1 k (t135 ++ ((t136 ++ t137) ++ t138)) true l0_1 a0_2 a0_3 a0_4 l0_5) else (none)) else (none))) else (none))) = some r := H
    have A11 := zM A110
    clear A110
    replace H := Option.bind_eq_some_iff.mp H
    obtain ⟨t137, A120, H⟩ := H
    replace H : (if t136.size + t137.size ≤ 9223372036854775807 then ((code_Num.f k a0_4).bind fun t138 => (if (t136 ++ t137).size + t138.size ≤ 9223372036854775807 then (if t135.size + ((t136 ++ t137) ++ t138).size ≤ 9223372036854775807 then (record_Put.j1 k (t135 ++ ((t136 ++ t137) ++ t138)) true l0_1 a0_2 a0_3 a0_4 l0_5) else (none)) else (none))) else (none)) = some r := H
    have A12 := zM A120
    clear A120
    by_cases c13 : t136.size + t137.size ≤ 9223372036854775807
    ·rw [if_pos c13] at H
     have c13b0 := eq_true c13
     have c13b1 : decide (t136.size + t137.size ≤ 9223372036854775807) = true := decide_eq_true c13
     try have c13b2 : (9223372036854775807 < t136.size + t137.size) = False := eq_false (Nat.not_lt.2 c13)
     replace H := Option.bind_eq_some_iff.mp H
     obtain ⟨t138, A140, H⟩ := H
     replace H : (if (t136 ++ t137).size + t138.size ≤ 9223372036854775807 then (if t135.size + ((t136 ++ t137) ++ t138).size ≤ 9223372036854775807 then (record_Put.j1 k (t135 ++ ((t136 ++ t137) ++ t138)) true l0_1 a0_2 a0_3 a0_4 l0_5) else (none)) else (none)) = some r := H
     have A14 := zM A140
     clear A140
     by_cases c15 : (t136 ++ t137).size + t138.size ≤ 9223372036854775807
     ·rw [if_pos c15] at H
      have c15b0 := eq_true c15
      have c15b1 : decide ((t136 ++ t137).size + t138.size ≤ 9223372036854775807) = true := decide_eq_true c15
      try have c15b2 : (9223372036854775807 < (t136 ++ t137).size + t138.size) = False := eq_false (Nat.not_lt.2 c15)
      have c15q := c15
      simp only [ByteArray.size_append] at c15q
      have c15b9 := eq_false (Nat.not_lt.2 c15q)
      clear c15q
      by_cases c16 : t135.size + ((t136 ++ t137) ++ t138).size ≤ 9223372036854775807
      ·rw [if_pos c16] at H
       have c16b0 := eq_true c16
       have c16b1 : decide (t135.size + ((t136 ++ t137) ++ t138).size ≤ 9223372036854775807) = true := decide_eq_true c16
       try have c16b2 : (9223372036854775807 < t135.size + ((t136 ++ t137) ++ t138).size) = False := eq_false (Nat.not_lt.2 c16)
       have c16q := c16
       simp only [ByteArray.size_append] at c16q
       have c16b9 := eq_false (Nat.not_lt.2 c16q)
       clear c16q
       have H' := zM H
       clear H
       try go_wp2
       have n0_ := zM (zD (zN BK133.out nd))
       have n1_ := zM (zW (zP HB.out nd))
       clear BK133
       clear HB
       have BK133 := n0_
       have HB := n1_
       clear n0_ n1_
       refine start_ (n := 15) (S := fun w' => w'.cell? ⟨gb133, 0, none⟩ = some (.bool true) ∧ w'.cell? ⟨gb133, 1, none⟩ = some (.slice A0_1 l0_1.length c0_1) ∧ w'.cell? ⟨gb133, 2, none⟩ = some (.int .i64 a0_2) ∧ w'.cell? ⟨gb133, 3, none⟩ = some (.int .u64 a0_3) ∧ w'.cell? ⟨gb133, 4, none⟩ = some (.int .u64 a0_4) ∧ w'.cell? ⟨gb133, 5, none⟩ = some (.slice A0_5 l0_5.length c0_5)) (ds := []) zb5_0 (by kernel_rfl) rfl rfl ⟨(zC BK133.out 0).trans rfl, (zC BK133.out 1).trans rfl, (zC BK133.out 2).trans rfl, (zC BK133.out 3).trans rfl, (zC BK133.out 4).trans rfl, (zC BK133.out 5).trans rfl⟩ (fun hHeld => ?_); refine with_tabW record_Put.tab5 record_Put.bits5 (fun HT_ HW_ => ?_)
       generalize (w8.drewN nd).drew = w17 at BK133 HB hHeld ⊢
       refine pure_ (i := 0) (N := some 16) (v := ?_) (a' := ?_) zb5_1 rfl rfl (any_of HT_.out (by kernel_rfl)) (fun _ _ _ h => h) (Or.inl ⟨by rfl, ?_⟩) ?_ ?_
       rotate_left
       ·intro w'
        go_simp
        with_reducible rfl
       rotate_left
       ·simp only [Act.put, zT, zZ, zU, i64_w, i32_w]
        rfl
       refine pure_ (i := 1) (N := some 17) (v := ?_) (a' := ?_) zb5_2 rfl rfl (any_of HT_.out (by kernel_rfl)) (fun _ _ _ h => h) (Or.inl ⟨by rfl, ?_⟩) ?_ ?_
       rotate_left
       ·intro w'
        go_simp
        with_reducible rfl
       rotate_left
       ·simp only [Act.put, zT, zZ, zU, i64_w, i32_w]
        rfl
       refine pure_ (i := 5) (N := some 21) (v := ?_) (a' := ?_) zb5_3 rfl rfl (any_of HT_.out (by kernel_rfl)) (fun _ _ _ h => h) (Or.inl ⟨by rfl, ?_⟩) ?_ ?_
       rotate_left
       ·intro w'
        go_simp
        with_reducible rfl
       rotate_left
       ·simp only [Act.put, zT, zZ, zU, i64_w, i32_w]
        rfl
       refine pure_ (i := 9) (N := some 25) (v := ?_) (a' := ?_) zb5_4 rfl rfl (any_of HT_.out (by kernel_rfl)) (fun _ _ _ h => h) (Or.inl ⟨by rfl, ?_⟩) ?_ ?_
       rotate_left
       ·intro w'
        go_simp
        with_reducible rfl
       rotate_left
       ·simp only [Act.put, zT, zZ, zU, i64_w, i32_w]
        rfl
       refine take_ (i := 2) (N := some 18) (v := ?_) (a' := ?_) zb5_5 rfl rfl (take_ofW HT_.out HW_.out (by kernel_rfl)) (fun _ _ _ h => h) (Or.inl ⟨by rfl, ?_⟩) hHeld ?_ ?_
       rotate_left
       ·rintro w' ⟨s0, s1, s2, s3, s4, s5⟩
        go_simp
        with_reducible rfl
       rotate_left
       ·simp only [Act.put, zT, zZ, zU, i64_w, i32_w]
        rfl
       refine pure_ (i := 3) (N := some 19) (v := ?_) (a' := ?_) zb5_6 rfl rfl (any_of HT_.out (by kernel_rfl)) (fun _ _ _ h => h) (Or.inl ⟨by rfl, ?_⟩) ?_ ?_
       rotate_left
       ·intro w'
        go_simp
        with_reducible rfl
       rotate_left
       ·simp only [Act.put, zT, zZ, zU, i64_w, i32_w]
        rfl
       refine take_ (i := 6) (N := some 22) (v := ?_) (a' := ?_) zb5_7 rfl rfl (take_ofW HT_.out HW_.out (by kernel_rfl)) (fun _ _ _ h => h) (Or.inl ⟨by rfl, ?_⟩) hHeld ?_ ?_
       rotate_left
       ·rintro w' ⟨s0, s1, s2, s3, s4, s5⟩
        go_simp
        with_reducible rfl
       rotate_left
       ·simp only [Act.put, zT, zZ, zU, i64_w, i32_w]
        rfl
       refine take_ (i := 10) (N := some 26) (v := ?_) (a' := ?_) zb5_8 rfl rfl (take_ofW HT_.out HW_.out (by kernel_rfl)) (fun _ _ _ h => h) (Or.inl ⟨by rfl, ?_⟩) hHeld ?_ ?_
       rotate_left
       ·rintro w' ⟨s0, s1, s2, s3, s4, s5⟩
        go_simp
        with_reducible rfl
       rotate_left
       ·simp only [Act.put, zT, zZ, zU, i64_w, i32_w]
        rfl
       refine one_ (i := 4) (N := some 20) zb5_9 rfl rfl (one_of HT_.out (by kernel_rfl)) (by decide) (fun K hK => ?_)
       refine goes_ Tryd.func22 (by kernel_rfl) rfl #[.int .u64 (IntKind.u64.wrap (a0_2))] (by rfl) rfl rfl (by (try simp only [zY, List.map_cons, List.map_nil]); first | done | rfl | (simp only [zV, zX]; rfl)) ?_
       with_reducible refine (code_Num.calls k (IntKind.u64.wrap (a0_2)) t136 _ A11.out).mono ?_
       rintro e w18 ⟨rfl, hb⟩
       refine ⟨_, rfl, ?_⟩
       have n0_ := zM (zB (g := gb133) (o := .cells #[.bool true, .slice A0_1 l0_1.length c0_1, .int .i64 a0_2, .int .u64 a0_3, .int .u64 a0_4, .slice A0_5 l0_5.length c0_5] 26 (0, 0)) (by (with_reducible repeat (first | refine zN ?_ _ | refine zD ?_ | refine zA ?_ _)); exact BK133.out) hb)
       have n1_ := zM (below_step (by repeat (first | (with_reducible first | exact HB.out | apply zL | apply zP | apply zW | refine zS ?_ GE133.out) | exact HB.out)) hb)
       clear BK133
       clear HB
       have BK133 := n0_
       have HB := n1_
       clear n0_ n1_
       (try clear hb)
       (try clear hb2)
       (try clear hk)
       (try clear hi)
       refine hK.out _ _ ⟨(zC BK133.out 0).trans rfl, (zC BK133.out 1).trans rfl, (zC BK133.out 2).trans rfl, (zC BK133.out 3).trans rfl, (zC BK133.out 4).trans rfl, (zC BK133.out 5).trans rfl⟩ (fun hHeld => ?_)
       clear hK K
       refine norm_ (a' := ?_) ?_ ?_
       rotate_left
       ·show Act.put _ (some 20) _ = _
        simp only [Act.put, zT, zZ, zU, i64_w, i32_w]
        rfl
       refine one_ (i := 7) (N := some 23) zb5_10 rfl rfl (one_of HT_.out (by kernel_rfl)) (by decide) (fun K hK => ?_)
       refine goes_ Tryd.func22 (by kernel_rfl) rfl #[.int .u64 a0_3] (by rfl) rfl rfl (by (try simp only [zY, List.map_cons, List.map_nil]); first | done | rfl | (simp only [zV, zX]; rfl)) ?_
       with_reducible refine (code_Num.calls k a0_3 t137 _ A12.out).mono ?_
       rintro e w19 ⟨rfl, hb⟩
       refine ⟨_, rfl, ?_⟩
       have n0_ := zM (zB (g := gb133) (o := .cells #[.bool true, .slice A0_1 l0_1.length c0_1, .int .i64 a0_2, .int .u64 a0_3, .int .u64 a0_4, .slice A0_5 l0_5.length c0_5] 26 (0, 0)) (by (with_reducible repeat (first | refine zN ?_ _ | refine zD ?_ | refine zA ?_ _)); exact BK133.out) hb)
       have n1_ := zM (below_step (by repeat (first | (with_reducible first | exact HB.out | apply zL | apply zP | apply zW | refine zS ?_ GE133.out) | exact HB.out)) hb)
       clear BK133
       clear HB
       have BK133 := n0_
       have HB := n1_
       clear n0_ n1_
       (try clear hb)
       (try clear hb2)
       (try clear hk)
       (try clear hi)
       refine hK.out _ _ ⟨(zC BK133.out 0).trans rfl, (zC BK133.out 1).trans rfl, (zC BK133.out 2).trans rfl, (zC BK133.out 3).trans rfl, (zC BK133.out 4).trans rfl, (zC BK133.out 5).trans rfl⟩ (fun hHeld => ?_)
       clear hK K
       refine norm_ (a' := ?_) ?_ ?_
       rotate_left
       ·show Act.put _ (some 23) _ = _
        simp only [Act.put, zT, zZ, zU, i64_w, i32_w]
        rfl
       refine pure_ (i := 8) (N := some 24) (v := ?_) (a' := ?_) zb5_11 rfl rfl (any_of HT_.out (by kernel_rfl)) (fun _ _ _ h => h) (Or.inl ⟨by rfl, ?_⟩) ?_ ?_
       rotate_left
       ·intro w'
        go_simp
        with_reducible rfl
       rotate_left
       ·simp only [Act.put, zT, zZ, zU, i64_w, i32_w]
        rfl
       refine one_ (i := 11) (N := some 27) zb5_12 rfl rfl (one_of HT_.out (by kernel_rfl)) (by decide) (fun K hK => ?_)
       refine goes_ Tryd.func22 (by kernel_rfl) rfl #[.int .u64 a0_4] (by rfl) rfl rfl (by (try simp only [zY, List.map_cons, List.map_nil]); first | done | rfl | (simp only [zV, zX]; rfl)) ?_
       with_reducible refine (code_Num.calls k a0_4 t138 _ A14.out).mono ?_
       rintro e w20 ⟨rfl, hb⟩
       refine ⟨_, rfl, ?_⟩
       have n0_ := zM (zB (g := gb133) (o := .cells #[.bool true, .slice A0_1 l0_1.length c0_1, .int .i64 a0_2, .int .u64 a0_3, .int .u64 a0_4, .slice A0_5 l0_5.length c0_5] 26 (0, 0)) (by (with_reducible repeat (first | refine zN ?_ _ | refine zD ?_ | refine zA ?_ _)); exact BK133.out) hb)
       have n1_ := zM (below_step (by repeat (first | (with_reducible first | exact HB.out | apply zL | apply zP | apply zW | refine zS ?_ GE133.out) | exact HB.out)) hb)
       clear BK133
       clear HB
       have BK133 := n0_
       have HB := n1_
       clear n0_ n1_
       (try clear hb)
       (try clear hb2)
       (try clear hk)
       (try clear hi)
       refine hK.out _ _ ⟨(zC BK133.out 0).trans rfl, (zC BK133.out 1).trans rfl, (zC BK133.out 2).trans rfl, (zC BK133.out 3).trans rfl, (zC BK133.out 4).trans rfl, (zC BK133.out 5).trans rfl⟩ (fun hHeld => ?_)
       clear hK K
       refine norm_ (a' := ?_) ?_ ?_
       rotate_left
       ·show Act.put _ (some 27) _ = _
        simp only [Act.put, zT, zZ, zU, i64_w, i32_w]
        rfl
       refine pure_ (i := 12) (N := some 28) (v := ?_) (a' := ?_) zb5_13 rfl rfl (any_of HT_.out (by kernel_rfl)) (fun _ _ _ h => h) (Or.inl ⟨by rfl, ?_⟩) ?_ ?_
       rotate_left
       ·intro w'
        go_simp
        with_reducible rfl
       rotate_left
       ·simp only [Act.put, zT, zZ, zU, i64_w, i32_w]
        rfl
       refine pure_ (i := 13) (N := some 29) (v := ?_) (a' := ?_) zb5_14 rfl rfl (any_of HT_.out (by kernel_rfl)) (fun _ _ _ h => h) (Or.inl ⟨by rfl, ?_⟩) ?_ ?_
       rotate_left
       ·intro w'
        go_simp
        with_reducible rfl
       rotate_left
       ·simp only [Act.put, zT, zZ, zU, i64_w, i32_w]
        rfl
       refine pure_ (i := 14) (N := some 3) (v := ?_) (a' := ?_) zb5_15 rfl rfl (any_of HT_.out (by kernel_rfl)) (fun _ _ _ h => h) (Or.inl ⟨by rfl, ?_⟩) ?_ ?_
       rotate_left
       ·intro w'
        go_simp
        with_reducible rfl
       rotate_left
       ·simp only [Act.put, zT, zZ, zU, i64_w, i32_w]
        rfl
       refine done_ (done_of HT_.out (by kernel_rfl)) ?_
       try go_wp2
       go_meet
       case rel => exact ⟨_, (t135 ++ ((t136 ++ t137) ++ t138)), (by first | rfl | (simp; done) | (simp [*]; done)), H', ⟨by first | omega | exact Nat.le_refl _⟩, ⟨by (with_reducible repeat (first | refine zN ?_ _ | refine zD ?_ | refine zA ?_ _)); exact BK133.out⟩, ⟨by repeat (first | (with_reducible first | exact HB.out | apply zL | apply zP | apply zW | refine zS ?_ GE133.out) | exact HB.out)⟩⟩
      ·rw [if_neg c16] at H
       exact absurd H (by simp)
     ·rw [if_neg c15] at H
      exact absurd H (by simp)
    ·rw [if_neg c13] at H
     exact absurd H (by simp)
   ·replace c10 := Bool.eq_false_iff.mpr c10
    subst c10
    have H1 : (if l0_1.length ≤ 9223372036854775807 then ((code_Num.f k (l0_1.length : Int)).bind fun t139 => (if t135.size + t139.size ≤ 9223372036854775807 then (record_Put.l0 k (t135 ++ t139) l0_1 (l0_1.length : Int) 0 false l0_1 a0_2 a0_3 a0_4 l0_5) else (none))) else (none)) = some r := by rw [if_neg (show ¬ (false = true) by decide)] at H; exact H
    clear H
    have H := H1
    clear H1
    by_cases c21 : l0_1.length ≤ 9223372036854775807
    ·rw [if_pos c21] at H
     have c21b0 := eq_true c21
     have c21w : IntKind.u64.wrap (l0_1.length : Int) = (l0_1.length : Int) := by simp only [IntKind.wrap, IntKind.bits, IntKind.signed]; simp; omega
     have c21b1 : decide (l0_1.length ≤ 9223372036854775807) = true := decide_eq_true c21
     try have c21b2 : (9223372036854775807 < l0_1.length) = False := eq_false (Nat.not_lt.2 c21)
     clear c21
     replace H := Option.bind_eq_some_iff.mp H
     obtain ⟨t139, A220, H⟩ := H
     replace H : (if t135.size + t139.size ≤ 9223372036854775807 then (record_Put.l0 k (t135 ++ t139) l0_1 (l0_1.length : Int) 0 false l0_1 a0_2 a0_3 a0_4 l0_5) else (none)) = some r := H
     have A22 := zM A220
     clear A220
     by_cases c23 : t135.size + t139.size ≤ 9223372036854775807
     ·rw [if_pos c23] at H
      have c23b0 := eq_true c23
      have c23b1 : decide (t135.size + t139.size ≤ 9223372036854775807) = true := decide_eq_true c23
      try have c23b2 : (9223372036854775807 < t135.size + t139.size) = False := eq_false (Nat.not_lt.2 c23)
      have H' := zM H
      clear H
      have hcz24_0 : w8.cell? ⟨gb133, 0, none⟩ = some (.bool false) := (zC BK133.out 0).trans rfl
      have hcz24_1 : w8.cell? ⟨gb133, 1, none⟩ = some (.slice A0_1 l0_1.length c0_1) := (zC BK133.out 1).trans rfl
      have hcz24_2 : w8.cell? ⟨gb133, 2, none⟩ = some (.int .i64 a0_2) := (zC BK133.out 2).trans rfl
      have hcz24_3 : w8.cell? ⟨gb133, 3, none⟩ = some (.int .u64 a0_3) := (zC BK133.out 3).trans rfl
      have hcz24_4 : w8.cell? ⟨gb133, 4, none⟩ = some (.int .u64 a0_4) := (zC BK133.out 4).trans rfl
      have hcz24_5 : w8.cell? ⟨gb133, 5, none⟩ = some (.slice A0_5 l0_5.length c0_5) := (zC BK133.out 5).trans rfl
      have hfz24_0 := zF BK133.out 0
      have hfz24_1 := zF BK133.out 1
      have hfz24_2 := zF BK133.out 2
      have hfz24_3 := zF BK133.out 3
      have hfz24_4 := zF BK133.out 4
      have hfz24_5 := zF BK133.out 5
      go_wp2_with (first | ((with_reducible refine gate_callee (f := 22) rfl ?_); refine goesL_ (some 35) rfl rfl Tryd.func22 (by kernel_rfl) rfl #[.int .u64 (l0_1.length : Int)] rfl (by (try simp only [zY, List.map_cons, List.map_nil]); first | done | rfl | (simp only [zV, zX]; rfl)) ?_; (with_reducible refine (code_Num.calls k (l0_1.length : Int) t139 _ A22.out).mono ?_); rintro e w25 ⟨rfl, hb⟩; refine ⟨_, rfl, ?_⟩; have n0_ := zM (zB (g := gb133) (o := .cells #[.bool false, .slice A0_1 l0_1.length c0_1, .int .i64 a0_2, .int .u64 a0_3, .int .u64 a0_4, .slice A0_5 l0_5.length c0_5] 26 (0, 0)) (by (with_reducible repeat (first | refine zN ?_ _ | refine zD ?_ | refine zA ?_ _)); exact BK133.out) hb); have n1_ := zM (below_step (by repeat (first | (with_reducible first | exact HB.out | apply zL | apply zP | apply zW | refine zS ?_ GE133.out) | exact HB.out)) hb); clear BK133; clear HB; have BK133 := n0_; have HB := n1_; clear n0_ n1_; (try clear hb); (try clear hb2); (try clear hk); (try clear hi); have hcz26_0 : w25.cell? ⟨gb133, 0, none⟩ = some (.bool false) := (zC BK133.out 0).trans rfl; have hcz26_1 : w25.cell? ⟨gb133, 1, none⟩ = some (.slice A0_1 l0_1.length c0_1) := (zC BK133.out 1).trans rfl; have hcz26_2 : w25.cell? ⟨gb133, 2, none⟩ = some (.int .i64 a0_2) := (zC BK133.out 2).trans rfl; have hcz26_3 : w25.cell? ⟨gb133, 3, none⟩ = some (.int .u64 a0_3) := (zC BK133.out 3).trans rfl; have hcz26_4 : w25.cell? ⟨gb133, 4, none⟩ = some (.int .u64 a0_4) := (zC BK133.out 4).trans rfl; have hcz26_5 : w25.cell? ⟨gb133, 5, none⟩ = some (.slice A0_5 l0_5.length c0_5) := (zC BK133.out 5).trans rfl; have hfz26_0 := zF BK133.out 0; have hfz26_1 := zF BK133.out 1; have hfz26_2 := zF BK133.out 2; have hfz26_3 := zF BK133.out 3; have hfz26_4 := zF BK133.out 4; have hfz26_5 := zF BK133.out 5))
      go_loopg [3, 40] k (fun kq v3 v40 w' => ∃ (x3_1 : ByteArray) (x40_1 : Int), v3 = .string x3_1 ∧ v40 = .int .i64 x40_1 ∧ Aside0 (record_Put.l0 kq x3_1 l0_1 (l0_1.length : Int) x40_1 false l0_1 a0_2 a0_3 a0_4 l0_5 = some r) ∧ Aside0 (kq ≤ k) ∧ Aside0 (w'.heap[gb133]? = some (.cells #[.bool false, (.slice A0_1 l0_1.length c0_1), .int .i64 a0_2, .int .u64 a0_3, .int .u64 a0_4, (.slice A0_5 l0_5.length c0_5)] 26 (0, 0))) ∧ Aside0 (Below w.heap.size w w'))
      case atStart => exact ⟨(t135 ++ t139), (0), (by first | rfl | (simp; done) | (simp [*]; done)), (by first | rfl | (simp; done) | (simp [*]; done)), H', ⟨Nat.le_refl _⟩, ⟨by (with_reducible repeat (first | refine zN ?_ _ | refine zD ?_ | refine zA ?_ _)); exact BK133.out⟩, ⟨by repeat (first | (with_reducible first | exact HB.out | apply zL | apply zP | apply zW | refine zS ?_ GE133.out) | exact HB.out)⟩⟩
      case round =>
       clear H'
       try clear c1
       try clear c2
       try clear p2
       try clear c3
       try clear c7
       try clear c10
       try clear c11
       try clear c13
       try clear c13b0
       try clear c13b1
       try clear c13b2
       try clear c15
       try clear c15b0
       try clear c15b1
       try clear c15b2
       try clear c16
       try clear c16b0
       try clear c16b1
       try clear c16b2
       try clear c21
       try clear c21b0
       try clear c21b1
       try clear c21b2
       try clear c22
       try clear c23
       try clear c23b0
       try clear c23b1
       try clear c23b2
       try clear hcz24_0
       try clear hcz24_1
       try clear hcz24_2
       try clear hcz24_3
       try clear hcz24_4
       try clear hcz24_5
       try clear hcz26_0
       try clear hcz26_1
       try clear hcz26_2
       try clear hcz26_3
       try clear hcz26_4
       try clear hcz26_5
       try clear hcz7_0
       try clear hcz7_1
       try clear hcz7_2
       try clear hcz7_3
       try clear hcz7_4
       try clear hcz7_5
       try clear hcz9_0
       try clear hcz9_1
       try clear hcz9_2
       try clear hcz9_3
       try clear hcz9_4
       try clear hcz9_5
       try clear hfz24_0
       try clear hfz24_1
       try clear hfz24_2
       try clear hfz24_3
       try clear hfz24_4
       try clear hfz24_5
       try clear hfz26_0
       try clear hfz26_1
       try clear hfz26_2
       try clear hfz26_3
       try clear hfz26_4
       try clear hfz26_5
       try clear hfz7_0
       try clear hfz7_1
       try clear hfz7_2
       try clear hfz7_3
       try clear hfz7_4
       try clear hfz7_5
       try clear hfz9_0
       try clear hfz9_1
       try clear hfz9_2
       try clear hfz9_3
       try clear hfz9_4
       try clear hfz9_5
       obtain ⟨x3_1, x40_1, rfl, rfl, HA, HK1, BK133, HB⟩ := hrel
       cases gk with
       | zero => exact absurd HA.out (by simp [record_Put.l0])
       | succ k1 =>
        have H := HA.out
        clear HA
        simp only [record_Put.l0] at H
        by_cases c27 : x40_1 < (l0_1.length : Int)
        ·rw [if_pos c27] at H
         have c27b0 : decide (x40_1 < (l0_1.length : Int)) = true := decide_eq_true c27
         clear c27
         (first | rw [c27b0] | (simp only [i64_w, i32_w]; rw [c27b0]) | skip)
         by_cases c28 : 0 ≤ x40_1
         ·rw [if_pos c28] at H
          have c28b0 : decide (0 ≤ x40_1) = true := decide_eq_true c28
          clear c28
          by_cases c29 : x40_1 < (l0_1.length : Int)
          ·rw [if_pos c29] at H
           have c29b0 : decide (x40_1 < (l0_1.length : Int)) = true := decide_eq_true c29
           clear c29
           replace H := Option.bind_eq_some_iff.mp H
           obtain ⟨t141, A300, H⟩ := H
           replace H : (if x3_1.size + t141.size ≤ 9223372036854775807 then (record_Put.l0 k1 (x3_1 ++ t141) l0_1 (l0_1.length : Int) (wrap64 (x40_1 + 1)) false l0_1 a0_2 a0_3 a0_4 l0_5) else (none)) = some r := H
           have A30 := zM A300
           clear A300
           by_cases c31 : x3_1.size + t141.size ≤ 9223372036854775807
           ·rw [if_pos c31] at H
            have c31b0 := eq_true c31
            have c31b1 : decide (x3_1.size + t141.size ≤ 9223372036854775807) = true := decide_eq_true c31
            try have c31b2 : (9223372036854775807 < x3_1.size + t141.size) = False := eq_false (Nat.not_lt.2 c31)
            have H' := zM H
            clear H
            have p140 : 0 ≤ (x40_1 : Int) := of_decide_eq_true (by first | (with_reducible assumption) | assumption)
            have q140 : x40_1 < (l0_1.length : Int) := of_decide_eq_true (by first | (with_reducible assumption) | assumption)
            obtain ⟨ad140, e140, hx140_0⟩ := Kd.at_int HR0_1.out x40_1 p140 q140
            cases e140
            replace hx140_0 := (HB.out.cell (World.block_lt_of_cell? w _ hx140_0)).trans hx140_0
            replace p140 := eq_true p140
            replace q140 := eq_true q140
            go_wp2_with (first | ((with_reducible refine gate_callee (f := 22) rfl ?_); refine goesL_ (some 47) rfl rfl Tryd.func22 (by kernel_rfl) rfl #[.int .u64 (IntKind.u64.wrap (rd l0_1 x40_1))] rfl (by (try simp only [zY, List.map_cons, List.map_nil]); first | done | rfl | (simp only [zV, zX]; rfl)) ?_; (with_reducible refine (code_Num.calls k1 (IntKind.u64.wrap (rd l0_1 x40_1)) t141 _ A30.out).mono ?_); rintro e w32 ⟨rfl, hb⟩; refine ⟨_, rfl, ?_⟩; have n0_ := zM (zB (g := gb133) (o := .cells #[.bool false, .slice (some ad140) l0_1.length c0_1, .int .i64 a0_2, .int .u64 a0_3, .int .u64 a0_4, .slice A0_5 l0_5.length c0_5] 26 (0, 0)) (by (with_reducible repeat (first | refine zN ?_ _ | refine zD ?_ | refine zA ?_ _)); exact BK133.out) hb); have n1_ := zM (below_step (by repeat (first | (with_reducible first | exact HB.out | apply zL | apply zP | apply zW | refine zS ?_ GE133.out) | exact HB.out)) hb); clear BK133; clear HB; have BK133 := n0_; have HB := n1_; clear n0_ n1_; (try clear hb); (try clear hb2); (try clear hk); (try clear hi)))
            go_roundg k1
            case measure => have := HK1.out; omega
            case rel => exact ⟨(x3_1 ++ t141), (wrap64 (x40_1 + 1)), (by first | rfl | (simp; done) | (simp [*]; done)), (by first | rfl | (simp; done) | (simp [*]; done)), H', ⟨by have := HK1.out; omega⟩, ⟨by (with_reducible repeat (first | refine zN ?_ _ | refine zD ?_ | refine zA ?_ _)); exact BK133.out⟩, ⟨by repeat (first | (with_reducible first | exact HB.out | apply zL | apply zP | apply zW | refine zS ?_ GE133.out) | exact HB.out)⟩⟩
           ·rw [if_neg c31] at H
            exact absurd H (by simp)
          ·rw [if_neg c29] at H
           exact absurd H (by simp)
         ·rw [if_neg c28] at H
          exact absurd H (by simp)
        ·rw [if_neg c27] at H
         have c27b0 : decide (x40_1 < (l0_1.length : Int)) = false := decide_eq_false c27
         clear c27
         (first | rw [c27b0] | (simp only [i64_w, i32_w]; rw [c27b0]) | skip)
         have H' := zM H
         clear H
         go_wp2
         go_meet
         case rel => exact ⟨_, (x3_1), (by first | rfl | (simp; done) | (simp [*]; done)), H', ⟨by have := HK1.out; first | omega | exact Nat.le_refl _⟩, ⟨by (with_reducible repeat (first | refine zN ?_ _ | refine zD ?_ | refine zA ?_ _)); exact BK133.out⟩, ⟨by repeat (first | (with_reducible first | exact HB.out | apply zL | apply zP | apply zW | refine zS ?_ GE133.out) | exact HB.out)⟩⟩
     ·rw [if_neg c23] at H
      exact absurd H (by simp)
    ·rw [if_neg c21] at H
     exact absurd H (by simp)
  case rest =>
   clear HC5
   try clear c1
   try clear p1
   try clear q1
   try clear hx1
   try clear c2
   try clear p2
   try clear c3
   try clear p6
   try clear c7
   try clear c10
   try clear c11
   try clear c13
   try clear c13b0
   try clear c13b1
   try clear c13b2
   try clear p14
   try clear q14
   try clear hx14
   try clear c15
   try clear c15b0
   try clear c15b1
   try clear c15b2
   try clear c16
   try clear c16b0
   try clear c16b1
   try clear c16b2
   try clear c21
   try clear c21b0
   try clear c21b1
   try clear c21b2
   try clear c22
   try clear c23
   try clear c23b0
   try clear c23b1
   try clear c23b2
   try clear c27
   try clear c27b0
   try clear c28
   try clear c28b0
   try clear c29
   try clear c29b0
   try clear c31
   try clear c31b0
   try clear c31b1
   try clear c31b2
   try clear hcz24_0
   try clear hcz24_1
   try clear hcz24_2
   try clear hcz24_3
   try clear hcz24_4
   try clear hcz24_5
   try clear hcz26_0
   try clear hcz26_1
   try clear hcz26_2
   try clear hcz26_3
   try clear hcz26_4
   try clear hcz26_5
   try clear hcz7_0
   try clear hcz7_1
   try clear hcz7_2
   try clear hcz7_3
   try clear hcz7_4
   try clear hcz7_5
   try clear hcz9_0
   try clear hcz9_1
   try clear hcz9_2
   try clear hcz9_3
   try clear hcz9_4
   try clear hcz9_5
   try clear hfz24_0
   try clear hfz24_1
   try clear hfz24_2
   try clear hfz24_3
   try clear hfz24_4
   try clear hfz24_5
   try clear hfz26_0
   try clear hfz26_1
   try clear hfz26_2
   try clear hfz26_3
   try clear hfz26_4
   try clear hfz26_5
   try clear hfz7_0
   try clear hfz7_1
   try clear hfz7_2
   try clear hfz7_3
   try clear hfz7_4
   try clear hfz7_5
   try clear hfz9_0
   try clear hfz9_1
   try clear hfz9_2
   try clear hfz9_3
   try clear hfz9_4
   try clear hfz9_5
   try clear hx140_0
   try clear p140
   try clear p2
   try clear q140
   obtain ⟨kq, x3_4, rfl, HA, HJ4, BK133, HB⟩ := hcut
   cases kq with
   | zero => exact absurd HA.out (by simp [record_Put.j1])
   | succ kj4 =>
    have H := HA.out
    clear HA
    simp only [record_Put.j1] at H
    by_cases c33 : l0_5.length ≤ 9223372036854775807
    ·rw [if_pos c33] at H
     have c33b0 := eq_true c33
     have c33w : IntKind.u64.wrap (l0_5.length : Int) = (l0_5.length : Int) := by simp only [IntKind.wrap, IntKind.bits, IntKind.signed]; simp; omega
     have c33b1 : decide (l0_5.length ≤ 9223372036854775807) = true := decide_eq_true c33
     try have c33b2 : (9223372036854775807 < l0_5.length) = False := eq_false (Nat.not_lt.2 c33)
     clear c33
     replace H := Option.bind_eq_some_iff.mp H
     obtain ⟨t142, A340, H⟩ := H
     replace H : (if x3_4.size + t142.size ≤ 9223372036854775807 then (record_Put.l1 kj4 (x3_4 ++ t142) l0_5 (l0_5.length : Int) 0) else (none)) = some r := H
     have A34 := zM A340
     clear A340
     by_cases c35 : x3_4.size + t142.size ≤ 9223372036854775807
     ·rw [if_pos c35] at H
      have c35b0 := eq_true c35
      have c35b1 : decide (x3_4.size + t142.size ≤ 9223372036854775807) = true := decide_eq_true c35
      try have c35b2 : (9223372036854775807 < x3_4.size + t142.size) = False := eq_false (Nat.not_lt.2 c35)
      have H' := zM H
      clear H
      have hcz36_0 : wc.cell? ⟨gb133, 0, none⟩ = some (.bool a0_0) := (zC BK133.out 0).trans rfl
      have hcz36_1 : wc.cell? ⟨gb133, 1, none⟩ = some (.slice A0_1 l0_1.length c0_1) := (zC BK133.out 1).trans rfl
      have hcz36_2 : wc.cell? ⟨gb133, 2, none⟩ = some (.int .i64 a0_2) := (zC BK133.out 2).trans rfl
      have hcz36_3 : wc.cell? ⟨gb133, 3, none⟩ = some (.int .u64 a0_3) := (zC BK133.out 3).trans rfl
      have hcz36_4 : wc.cell? ⟨gb133, 4, none⟩ = some (.int .u64 a0_4) := (zC BK133.out 4).trans rfl
      have hcz36_5 : wc.cell? ⟨gb133, 5, none⟩ = some (.slice A0_5 l0_5.length c0_5) := (zC BK133.out 5).trans rfl
      have hfz36_0 := zF BK133.out 0
      have hfz36_1 := zF BK133.out 1
      have hfz36_2 := zF BK133.out 2
      have hfz36_3 := zF BK133.out 3
      have hfz36_4 := zF BK133.out 4
      have hfz36_5 := zF BK133.out 5
      go_wp2_with (first | ((with_reducible refine gate_callee (f := 22) rfl ?_); refine goesL_ (some 55) rfl rfl Tryd.func22 (by kernel_rfl) rfl #[.int .u64 (l0_5.length : Int)] rfl (by (try simp only [zY, List.map_cons, List.map_nil]); first | done | rfl | (simp only [zV, zX]; rfl)) ?_; (with_reducible refine (code_Num.calls kj4 (l0_5.length : Int) t142 _ A34.out).mono ?_); rintro e w37 ⟨rfl, hb⟩; refine ⟨_, rfl, ?_⟩; have n0_ := zM (zB (g := gb133) (o := .cells #[.bool a0_0, .slice A0_1 l0_1.length c0_1, .int .i64 a0_2, .int .u64 a0_3, .int .u64 a0_4, .slice A0_5 l0_5.length c0_5] 26 (0, 0)) (by (with_reducible repeat (first | refine zN ?_ _ | refine zD ?_ | refine zA ?_ _)); exact BK133.out) hb); have n1_ := zM (below_step (by repeat (first | (with_reducible first | exact HB.out | apply zL | apply zP | apply zW | refine zS ?_ GE133.out) | exact HB.out)) hb); clear BK133; clear HB; have BK133 := n0_; have HB := n1_; clear n0_ n1_; (try clear hb); (try clear hb2); (try clear hk); (try clear hi); have hcz38_0 : w37.cell? ⟨gb133, 0, none⟩ = some (.bool a0_0) := (zC BK133.out 0).trans rfl; have hcz38_1 : w37.cell? ⟨gb133, 1, none⟩ = some (.slice A0_1 l0_1.length c0_1) := (zC BK133.out 1).trans rfl; have hcz38_2 : w37.cell? ⟨gb133, 2, none⟩ = some (.int .i64 a0_2) := (zC BK133.out 2).trans rfl; have hcz38_3 : w37.cell? ⟨gb133, 3, none⟩ = some (.int .u64 a0_3) := (zC BK133.out 3).trans rfl; have hcz38_4 : w37.cell? ⟨gb133, 4, none⟩ = some (.int .u64 a0_4) := (zC BK133.out 4).trans rfl; have hcz38_5 : w37.cell? ⟨gb133, 5, none⟩ = some (.slice A0_5 l0_5.length c0_5) := (zC BK133.out 5).trans rfl; have hfz38_0 := zF BK133.out 0; have hfz38_1 := zF BK133.out 1; have hfz38_2 := zF BK133.out 2; have hfz38_3 := zF BK133.out 3; have hfz38_4 := zF BK133.out 4; have hfz38_5 := zF BK133.out 5))
      go_loopg [3, 60] kj4 (fun kq v3 v60 w' => ∃ (x3_2 : ByteArray) (x60_2 : Int), v3 = .string x3_2 ∧ v60 = .int .i64 x60_2 ∧ Aside0 (record_Put.l1 kq x3_2 l0_5 (l0_5.length : Int) x60_2 = some r) ∧ Aside0 (kq ≤ kj4) ∧ Aside0 (w'.heap[gb133]? = some (.cells #[.bool a0_0, (.slice A0_1 l0_1.length c0_1), .int .i64 a0_2, .int .u64 a0_3, .int .u64 a0_4, (.slice A0_5 l0_5.length c0_5)] 26 (0, 0))) ∧ Aside0 (Below w.heap.size w w'))
      case atStart => exact ⟨(x3_4 ++ t142), (0), (by first | rfl | (simp; done) | (simp [*]; done)), (by first | rfl | (simp; done) | (simp [*]; done)), H', ⟨Nat.le_refl _⟩, ⟨by (with_reducible repeat (first | refine zN ?_ _ | refine zD ?_ | refine zA ?_ _)); exact BK133.out⟩, ⟨by repeat (first | (with_reducible first | exact HB.out | apply zL | apply zP | apply zW | refine zS ?_ GE133.out) | exact HB.out)⟩⟩
      case round =>
       clear H'
       try clear c1
       try clear p1
       try clear q1
       try clear hx1
       try clear c2
       try clear p2
       try clear c3
       try clear p6
       try clear c7
       try clear c10
       try clear c11
       try clear c13
       try clear c13b0
       try clear c13b1
       try clear c13b2
       try clear p14
       try clear q14
       try clear hx14
       try clear c15
       try clear c15b0
       try clear c15b1
       try clear c15b2
       try clear c16
       try clear c16b0
       try clear c16b1
       try clear c16b2
       try clear c21
       try clear c21b0
       try clear c21b1
       try clear c21b2
       try clear c22
       try clear c23
       try clear c23b0
       try clear c23b1
       try clear c23b2
       try clear c27
       try clear c27b0
       try clear c28
       try clear c28b0
       try clear c29
       try clear c29b0
       try clear c31
       try clear c31b0
       try clear c31b1
       try clear c31b2
       try clear c33
       try clear c33b0
       try clear c33b1
       try clear c33b2
       try clear c35
       try clear c35b0
       try clear c35b1
       try clear c35b2
       try clear hcz24_0
       try clear hcz24_1
       try clear hcz24_2
       try clear hcz24_3
       try clear hcz24_4
       try clear hcz24_5
       try clear hcz26_0
       try clear hcz26_1
       try clear hcz26_2
       try clear hcz26_3
       try clear hcz26_4
       try clear hcz26_5
       try clear hcz36_0
       try clear hcz36_1
       try clear hcz36_2
       try clear hcz36_3
       try clear hcz36_4
       try clear hcz36_5
       try clear hcz38_0
       try clear hcz38_1
       try clear hcz38_2
       try clear hcz38_3
       try clear hcz38_4
       try clear hcz38_5
       try clear hcz7_0
       try clear hcz7_1
       try clear hcz7_2
       try clear hcz7_3
       try clear hcz7_4
       try clear hcz7_5
       try clear hcz9_0
       try clear hcz9_1
       try clear hcz9_2
       try clear hcz9_3
       try clear hcz9_4
       try clear hcz9_5
       try clear hfz24_0
       try clear hfz24_1
       try clear hfz24_2
       try clear hfz24_3
       try clear hfz24_4
       try clear hfz24_5
       try clear hfz26_0
       try clear hfz26_1
       try clear hfz26_2
       try clear hfz26_3
       try clear hfz26_4
       try clear hfz26_5
       try clear hfz36_0
       try clear hfz36_1
       try clear hfz36_2
       try clear hfz36_3
       try clear hfz36_4
       try clear hfz36_5
       try clear hfz38_0
       try clear hfz38_1
       try clear hfz38_2
       try clear hfz38_3
       try clear hfz38_4
       try clear hfz38_5
       try clear hfz7_0
       try clear hfz7_1
       try clear hfz7_2
       try clear hfz7_3
       try clear hfz7_4
       try clear hfz7_5
       try clear hfz9_0
       try clear hfz9_1
       try clear hfz9_2
       try clear hfz9_3
       try clear hfz9_4
       try clear hfz9_5
       try clear hx140_0
       try clear p1
       try clear p14
       try clear p140
       try clear p2
       try clear p6
       try clear q1
       try clear q14
       try clear q140
       obtain ⟨x3_2, x60_2, rfl, rfl, HA, HK2, BK133, HB⟩ := hrel
       cases gk with
       | zero => exact absurd HA.out (by simp [record_Put.l1])
       | succ k2 =>
        have H := HA.out
        clear HA
        simp only [record_Put.l1] at H
        by_cases c39 : x60_2 < (l0_5.length : Int)
        ·rw [if_pos c39] at H
         have c39b0 : decide (x60_2 < (l0_5.length : Int)) = true := decide_eq_true c39
         clear c39
         by_cases c40 : 0 ≤ x60_2
         ·rw [if_pos c40] at H
          have c40b0 : decide (0 ≤ x60_2) = true := decide_eq_true c40
          clear c40
          by_cases c41 : x60_2 < (l0_5.length : Int)
          ·rw [if_pos c41] at H
           have c41b0 : decide (x60_2 < (l0_5.length : Int)) = true := decide_eq_true c41
           clear c41
           replace H := Option.bind_eq_some_iff.mp H
           obtain ⟨t145, A420, H⟩ := H
           replace H : ((value_Put.f k2 ((rd_T47 l0_5 x60_2).f1.f0) ((rd_T47 l0_5 x60_2).f1.f1) ((rd_T47 l0_5 x60_2).f1.f2)).bind fun t146 => (if t145.size + t146.size ≤ 9223372036854775807 then (if x3_2.size + (t145 ++ t146).size ≤ 9223372036854775807 then (record_Put.l1 k2 (x3_2 ++ (t145 ++ t146)) l0_5 (l0_5.length : Int) (wrap64 (x60_2 + 1))) else (none)) else (none))) = some r := H
           have A42 := zM A420
           clear A420
           replace H := Option.bind_eq_some_iff.mp H
           obtain ⟨t146, A430, H⟩ := H
           replace H : (if t145.size + t146.size ≤ 9223372036854775807 then (if x3_2.size + (t145 ++ t146).size ≤ 9223372036854775807 then (record_Put.l1 k2 (x3_2 ++ (t145 ++ t146)) l0_5 (l0_5.length : Int) (wrap64 (x60_2 + 1))) else (none)) else (none)) = some r := H
           have A43 := zM A430
           clear A430
           by_cases c44 : t145.size + t146.size ≤ 9223372036854775807
           ·rw [if_pos c44] at H
            have c44b0 := eq_true c44
            have c44b1 : decide (t145.size + t146.size ≤ 9223372036854775807) = true := decide_eq_true c44
            try have c44b2 : (9223372036854775807 < t145.size + t146.size) = False := eq_false (Nat.not_lt.2 c44)
            by_cases c45 : x3_2.size + (t145 ++ t146).size ≤ 9223372036854775807
            ·rw [if_pos c45] at H
             have c45b0 := eq_true c45
             have c45b1 : decide (x3_2.size + (t145 ++ t146).size ≤ 9223372036854775807) = true := decide_eq_true c45
             try have c45b2 : (9223372036854775807 < x3_2.size + (t145 ++ t146).size) = False := eq_false (Nat.not_lt.2 c45)
             have c45q := c45
             simp only [ByteArray.size_append] at c45q
             have c45b9 := eq_false (Nat.not_lt.2 c45q)
             clear c45q
             have H' := zM H
             clear H
             have p143 : 0 ≤ (x60_2 : Int) := of_decide_eq_true (by first | (with_reducible assumption) | assumption)
             have q143 : x60_2 < (l0_5.length : Int) := of_decide_eq_true (by first | (with_reducible assumption) | assumption)
             obtain ⟨ad143, e143, hx143_0, hx143_1, hx143_2, hx143_3⟩ := at_T47 HR0_5.out x60_2 p143 q143
             cases e143
             replace hx143_0 := (HB.out.cell (World.block_lt_of_cell? w _ hx143_0)).trans hx143_0
             replace hx143_1 := (HB.out.cell (World.block_lt_of_cell? w _ hx143_1)).trans hx143_1
             replace hx143_2 := (HB.out.cell (World.block_lt_of_cell? w _ hx143_2)).trans hx143_2
             replace hx143_3 := (HB.out.cell (World.block_lt_of_cell? w _ hx143_3)).trans hx143_3
             replace p143 := eq_true p143
             replace q143 := eq_true q143
             try go_wp2_with (first | ((with_reducible refine gate_dst (N := 7) rfl ?_); refine box_event ?hg (N := 7) ?hd (cs := #[.int .i64 0, .int .i64 0, .int .i64 0, .string (⟨#[]⟩ : ByteArray)]) (t := 47) ?hr ?_; (case hd => rfl); (case hg => rfl); (case hr => first | (go_simp; done) | (go_simp; rfl)); intro gb144 hg w46 hbox hb; have n0_ := zM (zB (g := gb133) (o := .cells #[.bool a0_0, .slice A0_1 l0_1.length c0_1, .int .i64 a0_2, .int .u64 a0_3, .int .u64 a0_4, .slice (some ad143) l0_5.length c0_5] 26 (0, 0)) (by (with_reducible repeat (first | refine zN ?_ _ | refine zD ?_ | refine zA ?_ _)); exact BK133.out) hb); have n1_ := zM (below_step (by repeat (first | (with_reducible first | exact HB.out | apply zL | apply zP | apply zW | refine zS ?_ GE133.out) | exact HB.out)) hb); have n2_ := zM (hbox); have n3_ := zM ((by rw [hg]; exact (below_size (by repeat (first | (with_reducible first | exact HB.out | apply zL | apply zP | apply zW | refine zS ?_ GE133.out) | exact HB.out))) : w.heap.size ≤ gb144)); have n4_ := zM ((by rw [hg]; exact (below_size (by repeat (first | (with_reducible first | exact HB.out | apply zL | apply zP | apply zW | refine zS ?_ GE133.out) | exact HB.out))) : w.heap.size ≤ gb144)); have n5_ := zM ((by rw [hg]; exact Nat.ne_of_lt (blk_lt (g := gb133) (o := .cells #[.bool a0_0, .slice A0_1 l0_1.length c0_1, .int .i64 a0_2, .int .u64 a0_3, .int .u64 a0_4, .slice (some ad143) l0_5.length c0_5] 26 (0, 0)) (by (with_reducible repeat (first | refine zN ?_ _ | refine zD ?_ | refine zA ?_ _)); exact BK133.out)) : gb133 ≠ gb144)); have n6_ := zM ((by rw [hg]; exact Nat.ne_of_gt (blk_lt (g := gb133) (o := .cells #[.bool a0_0, .slice A0_1 l0_1.length c0_1, .int .i64 a0_2, .int .u64 a0_3, .int .u64 a0_4, .slice (some ad143) l0_5.length c0_5] 26 (0, 0)) (by (with_reducible repeat (first | refine zN ?_ _ | refine zD ?_ | refine zA ?_ _)); exact BK133.out)) : gb144 ≠ gb133)); clear BK133; clear HB; have BK133 := n0_; have HB := n1_; have BK144 := n2_; have GW144 := n3_; have GE144 := n4_; have NB133_144 := n5_; have NB144_133 := n6_; clear n0_ n1_ n2_ n3_ n4_ n5_ n6_; clear hb hbox hg; have hnb47 := NB144_133.out; have hnc47 := NB133_144.out; have hcz48_0 : w46.cell? ⟨gb144, 0, none⟩ = some (.int .i64 0) := (zC BK144.out 0).trans rfl; have hcz48_1 : w46.cell? ⟨gb144, 1, none⟩ = some (.int .i64 0) := (zC BK144.out 1).trans rfl; have hcz48_2 : w46.cell? ⟨gb144, 2, none⟩ = some (.int .i64 0) := (zC BK144.out 2).trans rfl; have hcz48_3 : w46.cell? ⟨gb144, 3, none⟩ = some (.string (⟨#[]⟩ : ByteArray)) := (zC BK144.out 3).trans rfl; have hfz48_0 := zF BK144.out 0; have hfz48_1 := zF BK144.out 1; have hfz48_2 := zF BK144.out 2; have hfz48_3 := zF BK144.out 3))
             have n0_ : Aside0 (((((w46.setCell ⟨gb144, 0, none⟩ (.int .i64 ((rd_T47 l0_5 x60_2).f0))).setCell ⟨gb144, 1, none⟩ (.int .i64 ((rd_T47 l0_5 x60_2).f1.f0))).setCell ⟨gb144, 2, none⟩ (.int .i64 ((rd_T47 l0_5 x60_2).f1.f1))).setCell ⟨gb144, 3, none⟩ (.string ((rd_T47 l0_5 x60_2).f1.f2))).heap[gb133]? = some (.cells #[.bool a0_0, .slice A0_1 l0_1.length c0_1, .int .i64 a0_2, .int .u64 a0_3, .int .u64 a0_4, .slice (some ad143) l0_5.length c0_5] 26 (0, 0))) := ⟨by (with_reducible repeat (first | refine zN ?_ _ | refine zD ?_ | refine zA ?_ _)); refine blk_far ?_ NB133_144.out _; (with_reducible repeat (first | refine zN ?_ _ | refine zD ?_ | refine zA ?_ _)); refine blk_far ?_ NB133_144.out _; (with_reducible repeat (first | refine zN ?_ _ | refine zD ?_ | refine zA ?_ _)); refine blk_far ?_ NB133_144.out _; (with_reducible repeat (first | refine zN ?_ _ | refine zD ?_ | refine zA ?_ _)); refine blk_far ?_ NB133_144.out _; (with_reducible repeat (first | refine zN ?_ _ | refine zD ?_ | refine zA ?_ _)); exact BK133.out⟩
             have n1_ : Aside0 (((((w46.setCell ⟨gb144, 0, none⟩ (.int .i64 ((rd_T47 l0_5 x60_2).f0))).setCell ⟨gb144, 1, none⟩ (.int .i64 ((rd_T47 l0_5 x60_2).f1.f0))).setCell ⟨gb144, 2, none⟩ (.int .i64 ((rd_T47 l0_5 x60_2).f1.f1))).setCell ⟨gb144, 3, none⟩ (.string ((rd_T47 l0_5 x60_2).f1.f2))).heap[gb144]? = some (.cells #[.int .i64 ((rd_T47 l0_5 x60_2).f0), .int .i64 ((rd_T47 l0_5 x60_2).f1.f0), .int .i64 ((rd_T47 l0_5 x60_2).f1.f1), .string ((rd_T47 l0_5 x60_2).f1.f2)] 47 (0, 0))) := ⟨by (with_reducible repeat (first | refine zN ?_ _ | refine zD ?_ | refine zA ?_ _)); refine blk_put (cs := #[.int .i64 ((rd_T47 l0_5 x60_2).f0), .int .i64 ((rd_T47 l0_5 x60_2).f1.f0), .int .i64 ((rd_T47 l0_5 x60_2).f1.f1), .string (⟨#[]⟩ : ByteArray)]) ?_ 3 _ rfl; (with_reducible repeat (first | refine zN ?_ _ | refine zD ?_ | refine zA ?_ _)); refine blk_put (cs := #[.int .i64 ((rd_T47 l0_5 x60_2).f0), .int .i64 ((rd_T47 l0_5 x60_2).f1.f0), .int .i64 0, .string (⟨#[]⟩ : ByteArray)]) ?_ 2 _ rfl; (with_reducible repeat (first | refine zN ?_ _ | refine zD ?_ | refine zA ?_ _)); refine blk_put (cs := #[.int .i64 ((rd_T47 l0_5 x60_2).f0), .int .i64 0, .int .i64 0, .string (⟨#[]⟩ : ByteArray)]) ?_ 1 _ rfl; (with_reducible repeat (first | refine zN ?_ _ | refine zD ?_ | refine zA ?_ _)); refine blk_put (cs := #[.int .i64 0, .int .i64 0, .int .i64 0, .string (⟨#[]⟩ : ByteArray)]) ?_ 0 _ rfl; (with_reducible repeat (first | refine zN ?_ _ | refine zD ?_ | refine zA ?_ _)); exact BK144.out⟩
             have n2_ : Aside0 (Below w.heap.size w ((((w46.setCell ⟨gb144, 0, none⟩ (.int .i64 ((rd_T47 l0_5 x60_2).f0))).setCell ⟨gb144, 1, none⟩ (.int .i64 ((rd_T47 l0_5 x60_2).f1.f0))).setCell ⟨gb144, 2, none⟩ (.int .i64 ((rd_T47 l0_5 x60_2).f1.f1))).setCell ⟨gb144, 3, none⟩ (.string ((rd_T47 l0_5 x60_2).f1.f2)))) := ⟨by repeat (first | (with_reducible first | exact HB.out | apply zL | apply zP | apply zW | refine zS ?_ GE133.out | refine zS ?_ GE144.out) | exact HB.out)⟩
             (try clear BK133)
             (try clear BK144)
             (try clear HB)
             generalize ((((w46.setCell ⟨gb144, 0, none⟩ (.int .i64 ((rd_T47 l0_5 x60_2).f0))).setCell ⟨gb144, 1, none⟩ (.int .i64 ((rd_T47 l0_5 x60_2).f1.f0))).setCell ⟨gb144, 2, none⟩ (.int .i64 ((rd_T47 l0_5 x60_2).f1.f1))).setCell ⟨gb144, 3, none⟩ (.string ((rd_T47 l0_5 x60_2).f1.f2))) = w49 at n0_ n1_ n2_ ⊢
             have BK133 := n0_
             have BK144 := n1_
             have HB := n2_
             clear n0_ n1_ n2_
             have n0_ := zM (zD BK133.out)
             have n1_ := zM (zD BK144.out)
             have n2_ := zM (zW HB.out)
             clear BK133
             clear BK144
             clear HB
             have BK133 := n0_
             have BK144 := n1_
             have HB := n2_
             clear n0_ n1_ n2_
             refine start_ (n := 11) (S := fun w' => w'.cell? ⟨gb144, 0, none⟩ = some (.int .i64 ((rd_T47 l0_5 x60_2).f0)) ∧ w'.cell? ⟨gb144, 1, none⟩ = some (.int .i64 ((rd_T47 l0_5 x60_2).f1.f0)) ∧ w'.cell? ⟨gb144, 2, none⟩ = some (.int .i64 ((rd_T47 l0_5 x60_2).f1.f1)) ∧ w'.cell? ⟨gb144, 3, none⟩ = some (.string ((rd_T47 l0_5 x60_2).f1.f2))) (ds := []) zb5_16 (by kernel_rfl) rfl rfl ⟨(zC BK144.out 0).trans rfl, (zC BK144.out 1).trans rfl, (zC BK144.out 2).trans rfl, (zC BK144.out 3).trans rfl⟩ (fun hHeld => ?_); refine with_tabW record_Put.tab16 record_Put.bits16 (fun HT_ HW_ => ?_)
             generalize w49.drew = w50 at BK133 BK144 HB hHeld ⊢
             refine pure_ (i := 0) (N := some 64) (v := ?_) (a' := ?_) zb5_17 rfl rfl (any_of HT_.out (by kernel_rfl)) (fun _ _ _ h => h) (Or.inl ⟨by rfl, ?_⟩) ?_ ?_
             rotate_left
             ·intro w'
              go_simp
              with_reducible rfl
             rotate_left
             ·simp only [Act.put, zT, zZ, zU, i64_w, i32_w]
              rfl
             refine pure_ (i := 1) (N := some 65) (v := ?_) (a' := ?_) zb5_18 rfl rfl (any_of HT_.out (by kernel_rfl)) (fun _ _ _ h => h) (Or.inl ⟨by rfl, ?_⟩) ?_ ?_
             rotate_left
             ·intro w'
              go_simp
              with_reducible rfl
             rotate_left
             ·simp only [Act.put, zT, zZ, zU, i64_w, i32_w]
              rfl
             refine pure_ (i := 5) (N := some 69) (v := ?_) (a' := ?_) zb5_19 rfl rfl (any_of HT_.out (by kernel_rfl)) (fun _ _ _ h => h) (Or.inl ⟨by rfl, ?_⟩) ?_ ?_
             rotate_left
             ·intro w'
              go_simp
              with_reducible rfl
             rotate_left
             ·simp only [Act.put, zT, zZ, zU, i64_w, i32_w]
              rfl
             refine take_ (i := 2) (N := some 66) (v := ?_) (a' := ?_) zb5_20 rfl rfl (take_ofW HT_.out HW_.out (by kernel_rfl)) (fun _ _ _ h => h) (Or.inl ⟨by rfl, ?_⟩) hHeld ?_ ?_
             rotate_left
             ·rintro w' ⟨s0, s1, s2, s3⟩
              go_simp
              with_reducible rfl
             rotate_left
             ·simp only [Act.put, zT, zZ, zU, i64_w, i32_w]
              rfl
             refine pure_ (i := 3) (N := some 67) (v := ?_) (a' := ?_) zb5_21 rfl rfl (any_of HT_.out (by kernel_rfl)) (fun _ _ _ h => h) (Or.inl ⟨by rfl, ?_⟩) ?_ ?_
             rotate_left
             ·intro w'
              go_simp
              with_reducible rfl
             rotate_left
             ·simp only [Act.put, zT, zZ, zU, i64_w, i32_w]
              rfl
             refine take_ (i := 6) (N := some 70) (v := ?_) (a' := ?_) zb5_22 rfl rfl (take_ofW HT_.out HW_.out (by kernel_rfl)) (fun _ _ _ h => h) (Or.inl ⟨by rfl, ?_⟩) hHeld ?_ ?_
             rotate_left
             ·rintro w' ⟨s0, s1, s2, s3⟩
              go_simp
              with_reducible rfl
             rotate_left
             ·simp only [Act.put, zT, zZ, zU, i64_w, i32_w]
              rfl
             refine one_ (i := 4) (N := some 68) zb5_23 rfl rfl (one_of HT_.out (by kernel_rfl)) (by decide) (fun K hK => ?_)
             refine goes_ Tryd.func22 (by kernel_rfl) rfl #[.int .u64 (IntKind.u64.wrap ((rd_T47 l0_5 x60_2).f0))] (by rfl) rfl rfl (by (try simp only [zY, List.map_cons, List.map_nil]); first | done | rfl | (simp only [zV, zX]; rfl)) ?_
             with_reducible refine (code_Num.calls k2 (IntKind.u64.wrap ((rd_T47 l0_5 x60_2).f0)) t145 _ A42.out).mono ?_
             rintro e w51 ⟨rfl, hb⟩
             refine ⟨_, rfl, ?_⟩
             have n0_ := zM (zB (g := gb133) (o := .cells #[.bool a0_0, .slice A0_1 l0_1.length c0_1, .int .i64 a0_2, .int .u64 a0_3, .int .u64 a0_4, .slice (some ad143) l0_5.length c0_5] 26 (0, 0)) (by (with_reducible repeat (first | refine zN ?_ _ | refine zD ?_ | refine zA ?_ _)); exact BK133.out) hb)
             have n1_ := zM (zB (g := gb144) (o := .cells #[.int .i64 ((rd_T47 l0_5 x60_2).f0), .int .i64 ((rd_T47 l0_5 x60_2).f1.f0), .int .i64 ((rd_T47 l0_5 x60_2).f1.f1), .string ((rd_T47 l0_5 x60_2).f1.f2)] 47 (0, 0)) (by (with_reducible repeat (first | refine zN ?_ _ | refine zD ?_ | refine zA ?_ _)); exact BK144.out) hb)
             have n2_ := zM (below_step (by repeat (first | (with_reducible first | exact HB.out | apply zL | apply zP | apply zW | refine zS ?_ GE133.out | refine zS ?_ GE144.out) | exact HB.out)) hb)
             clear BK133
             clear BK144
             clear HB
             have BK133 := n0_
             have BK144 := n1_
             have HB := n2_
             clear n0_ n1_ n2_
             (try clear hb)
             (try clear hb2)
             (try clear hk)
             (try clear hi)
             refine hK.out _ _ ⟨(zC BK144.out 0).trans rfl, (zC BK144.out 1).trans rfl, (zC BK144.out 2).trans rfl, (zC BK144.out 3).trans rfl⟩ (fun hHeld => ?_)
             clear hK K
             refine norm_ (a' := ?_) ?_ ?_
             rotate_left
             ·show Act.put _ (some 68) _ = _
              simp only [Act.put, zT, zZ, zU, i64_w, i32_w]
              rfl
             refine one_ (i := 7) (N := some 71) zb5_24 rfl rfl (one_of HT_.out (by kernel_rfl)) (by decide) (fun K hK => ?_)
             refine goes_ Tryd.func23 (by kernel_rfl) rfl #[.agg #[.int .i64 ((rd_T47 l0_5 x60_2).f1.f0), .int .i64 ((rd_T47 l0_5 x60_2).f1.f1), .string ((rd_T47 l0_5 x60_2).f1.f2)]] (by rfl) rfl rfl (by (try simp only [zY, List.map_cons, List.map_nil]); first | done | rfl | (simp only [zV, zX]; rfl)) ?_
             with_reducible refine (value_Put.calls k2 ((rd_T47 l0_5 x60_2).f1.f0) ((rd_T47 l0_5 x60_2).f1.f1) ((rd_T47 l0_5 x60_2).f1.f2) t146 _ A43.out).mono ?_
             rintro e w52 ⟨rfl, hb⟩
             refine ⟨_, rfl, ?_⟩
             have n0_ := zM (zB (g := gb133) (o := .cells #[.bool a0_0, .slice A0_1 l0_1.length c0_1, .int .i64 a0_2, .int .u64 a0_3, .int .u64 a0_4, .slice (some ad143) l0_5.length c0_5] 26 (0, 0)) (by (with_reducible repeat (first | refine zN ?_ _ | refine zD ?_ | refine zA ?_ _)); exact BK133.out) hb)
             have n1_ := zM (zB (g := gb144) (o := .cells #[.int .i64 ((rd_T47 l0_5 x60_2).f0), .int .i64 ((rd_T47 l0_5 x60_2).f1.f0), .int .i64 ((rd_T47 l0_5 x60_2).f1.f1), .string ((rd_T47 l0_5 x60_2).f1.f2)] 47 (0, 0)) (by (with_reducible repeat (first | refine zN ?_ _ | refine zD ?_ | refine zA ?_ _)); exact BK144.out) hb)
             have n2_ := zM (below_step (by repeat (first | (with_reducible first | exact HB.out | apply zL | apply zP | apply zW | refine zS ?_ GE133.out | refine zS ?_ GE144.out) | exact HB.out)) hb)
             clear BK133
             clear BK144
             clear HB
             have BK133 := n0_
             have BK144 := n1_
             have HB := n2_
             clear n0_ n1_ n2_
             (try clear hb)
             (try clear hb2)
             (try clear hk)
             (try clear hi)
             refine hK.out _ _ ⟨(zC BK144.out 0).trans rfl, (zC BK144.out 1).trans rfl, (zC BK144.out 2).trans rfl, (zC BK144.out 3).trans rfl⟩ (fun hHeld => ?_)
             clear hK K
             refine norm_ (a' := ?_) ?_ ?_
             rotate_left
             ·show Act.put _ (some 71) _ = _
              simp only [Act.put, zT, zZ, zU, i64_w, i32_w]
              rfl
             refine pure_ (i := 8) (N := some 72) (v := ?_) (a' := ?_) zb5_25 rfl rfl (any_of HT_.out (by kernel_rfl)) (fun _ _ _ h => h) (Or.inl ⟨by rfl, ?_⟩) ?_ ?_
             rotate_left
             ·intro w'
              go_simp
              with_reducible rfl
             rotate_left
             ·simp only [Act.put, zT, zZ, zU, i64_w, i32_w]
              rfl
             refine pure_ (i := 9) (N := some 73) (v := ?_) (a' := ?_) zb5_26 rfl rfl (any_of HT_.out (by kernel_rfl)) (fun _ _ _ h => h) (Or.inl ⟨by rfl, ?_⟩) ?_ ?_
             rotate_left
             ·intro w'
              go_simp
              with_reducible rfl
             rotate_left
             ·simp only [Act.put, zT, zZ, zU, i64_w, i32_w]
              rfl
             refine pure_ (i := 10) (N := some 3) (v := ?_) (a' := ?_) zb5_27 rfl rfl (any_of HT_.out (by kernel_rfl)) (fun _ _ _ h => h) (Or.inl ⟨by rfl, ?_⟩) ?_ ?_
             rotate_left
             ·intro w'
              go_simp
              with_reducible rfl
             rotate_left
             ·simp only [Act.put, zT, zZ, zU, i64_w, i32_w]
              rfl
             refine done_ (done_of HT_.out (by kernel_rfl)) ?_
             try go_wp2
             go_roundg k2
             case measure => have := HJ4.out; have := HK2.out; omega
             case rel => exact ⟨(x3_2 ++ (t145 ++ t146)), (wrap64 (x60_2 + 1)), (by first | rfl | (simp; done) | (simp [*]; done)), (by first | rfl | (simp; done) | (simp [*]; done)), H', ⟨by have := HJ4.out; have := HK2.out; omega⟩, ⟨by (with_reducible repeat (first | refine zN ?_ _ | refine zD ?_ | refine zA ?_ _)); exact BK133.out⟩, ⟨by repeat (first | (with_reducible first | exact HB.out | apply zL | apply zP | apply zW | refine zS ?_ GE133.out | refine zS ?_ GE144.out) | exact HB.out)⟩⟩
            ·rw [if_neg c45] at H
             exact absurd H (by simp)
           ·rw [if_neg c44] at H
            exact absurd H (by simp)
          ·rw [if_neg c41] at H
           exact absurd H (by simp)
         ·rw [if_neg c40] at H
          exact absurd H (by simp)
        ·rw [if_neg c39] at H
         have c39b0 : decide (x60_2 < (l0_5.length : Int)) = false := decide_eq_false c39
         clear c39
         by_cases c53 : (x3_2.size : Int) > 4096
         ·rw [if_pos c53] at H
          have c53b0 : decide (4096 < (x3_2.size : Int)) = true := decide_eq_true c53
          have c53b1 : decide (4096 < x3_2.size) = true := decide_eq_true (by omega)
          clear c53
          obtain rfl := Option.some.inj H
          go_wp2
          go_ret
          exact ⟨by first | rfl | (simp [errW_none, errW_some] <;> rfl) | (simp [*, errW_none, errW_some] <;> rfl), by repeat (first | (with_reducible first | exact HB.out | apply zL | apply zP | apply zW | refine zS ?_ GE133.out) | exact HB.out)⟩
         ·rw [if_neg c53] at H
          have c53b0 : decide (4096 < (x3_2.size : Int)) = false := decide_eq_false c53
          have c53b1 : decide (4096 < x3_2.size) = false := decide_eq_false (by omega)
          clear c53
          obtain rfl := Option.some.inj H
          go_wp2
          go_ret
          exact ⟨by first | rfl | (simp [errW_none, errW_some] <;> rfl) | (simp [*, errW_none, errW_some] <;> rfl), by repeat (first | (with_reducible first | exact HB.out | apply zL | apply zP | apply zW | refine zS ?_ GE133.out) | exact HB.out)⟩
     ·rw [if_neg c35] at H
      exact absurd H (by simp)
    ·rw [if_neg c33] at H
     exact absurd H (by simp)
 ·replace c3 := Bool.eq_false_iff.mpr c3
  subst c3
  have H1 : (some (⟨#[]⟩ : ByteArray)) = some r := by rw [if_neg (show ¬ (false = true) by decide)] at H; exact H
  clear H
  have H := H1
  clear H1
  obtain rfl := Option.some.inj H
  go_enter Tryd.func7, Tryd.ntmps7
  go_wp2_with (first | ((with_reducible refine gate_dst (N := 1) rfl ?_); refine box_event ?hg (N := 1) ?hd (cs := #[.bool a0_0, .slice A0_1 l0_1.length c0_1, .int .i64 a0_2, .int .u64 a0_3, .int .u64 a0_4, .slice A0_5 l0_5.length c0_5]) (t := 26) ?hr ?_; (case hd => rfl); (case hg => rfl); (case hr => first | (go_simp; done) | (go_simp; rfl)); intro gb133 hg w54 hbox hb; have n0_ := zM (below_step (by repeat (first | (with_reducible first | exact HB.out | apply zL | apply zP | apply zW) | exact HB.out)) hb); have n1_ := zM (hbox); have n2_ := zM ((by rw [hg]; exact (below_size (by repeat (first | (with_reducible first | exact HB.out | apply zL | apply zP | apply zW) | exact HB.out))) : w.heap.size ≤ gb133)); have n3_ := zM ((by rw [hg]; exact (below_size (by repeat (first | (with_reducible first | exact HB.out | apply zL | apply zP | apply zW) | exact HB.out))) : w.heap.size ≤ gb133)); clear HB; have HB := n0_; have BK133 := n1_; have GW133 := n2_; have GE133 := n3_; clear n0_ n1_ n2_ n3_; clear hb hbox hg; have hcz55_0 : w54.cell? ⟨gb133, 0, none⟩ = some (.bool a0_0) := (zC BK133.out 0).trans rfl; have hcz55_1 : w54.cell? ⟨gb133, 1, none⟩ = some (.slice A0_1 l0_1.length c0_1) := (zC BK133.out 1).trans rfl; have hcz55_2 : w54.cell? ⟨gb133, 2, none⟩ = some (.int .i64 a0_2) := (zC BK133.out 2).trans rfl; have hcz55_3 : w54.cell? ⟨gb133, 3, none⟩ = some (.int .u64 a0_3) := (zC BK133.out 3).trans rfl; have hcz55_4 : w54.cell? ⟨gb133, 4, none⟩ = some (.int .u64 a0_4) := (zC BK133.out 4).trans rfl; have hcz55_5 : w54.cell? ⟨gb133, 5, none⟩ = some (.slice A0_5 l0_5.length c0_5) := (zC BK133.out 5).trans rfl; have hfz55_0 := zF BK133.out 0; have hfz55_1 := zF BK133.out 1; have hfz55_2 := zF BK133.out 2; have hfz55_3 := zF BK133.out 3; have hfz55_4 := zF BK133.out 4; have hfz55_5 := zF BK133.out 5) | ((with_reducible refine gate_callee (f := 11) rfl ?_); refine goesL_ (some 9) rfl rfl Tryd.func11 (by kernel_rfl) rfl #[.agg #[.bool a0_0, .slice A0_1 l0_1.length c0_1, .int .i64 a0_2, .int .u64 a0_3, .int .u64 a0_4, .slice A0_5 l0_5.length c0_5]] rfl (by (try simp only [zY, List.map_cons, List.map_nil]); first | done | rfl | (simp only [zV, zX]; rfl)) ?_; (with_reducible refine (record_May.calls k a0_0 _ _ l0_1 a0_2 a0_3 a0_4 _ _ l0_5 false _ ?side1 ?side2 ?side3 ?side4 A2.out).mono ?_); (case side1 => repeat (first | exact (Kd.C_below HR0_1.out HB.out) | (with_reducible refine Kd.C_alloc ?_ _) | (with_reducible refine Kd.C_drewN ?_ _) | (with_reducible refine Kd.C_drew ?_))); (case side2 => exact HC0_1.out); (case side3 => repeat (first | exact (Kd.C_below HR0_5.out HB.out) | (with_reducible refine Kd.C_alloc ?_ _) | (with_reducible refine Kd.C_drewN ?_ _) | (with_reducible refine Kd.C_drew ?_))); (case side4 => exact HC0_5.out); rintro e w56 ⟨rfl, hb⟩; refine ⟨_, rfl, ?_⟩; have n0_ := zM (zB (g := gb133) (o := .cells #[.bool a0_0, .slice A0_1 l0_1.length c0_1, .int .i64 a0_2, .int .u64 a0_3, .int .u64 a0_4, .slice A0_5 l0_5.length c0_5] 26 (0, 0)) (by (with_reducible repeat (first | refine zN ?_ _ | refine zD ?_ | refine zA ?_ _)); exact BK133.out) hb); have n1_ := zM (below_step (by repeat (first | (with_reducible first | exact HB.out | apply zL | apply zP | apply zW | refine zS ?_ GE133.out) | exact HB.out)) hb); clear BK133; clear HB; have BK133 := n0_; have HB := n1_; clear n0_ n1_; (try clear hb); (try clear hb2); (try clear hk); (try clear hi)))
  go_ret
  exact ⟨by first | rfl | (simp [errW_none, errW_some] <;> rfl) | (simp [*, errW_none, errW_some] <;> rfl), by repeat (first | (with_reducible first | exact HB.out | apply zL | apply zP | apply zW | refine zS ?_ GE133.out) | exact HB.out)⟩

end Go.Proofs.YtgghakjleihgaaaDoor.PRecordKeys
