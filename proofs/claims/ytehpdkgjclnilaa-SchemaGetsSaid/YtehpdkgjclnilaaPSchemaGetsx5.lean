-- Written by a program of this session's (the kit's print, with additions of my own). Not trusted: Lean checks it.
import Derived.Test.YtehpdkgjclnilaaPSchemaGetsx0
import Derived.Test.YtehpdkgjclnilaaPSchemaGetsx1
import Derived.Test.YtehpdkgjclnilaaPSchemaGetsx3
import Derived.Test.YtehpdkgjclnilaaPSchemaGetsx4
import Derived.Test.YtehpdkgjclnilaaXB
namespace Go.Proofs.Ytehpdkgjclnilaa.PSchemaGets
open Go.RowKit Go.Proofs.YtehpdkgjclnilaaW.PrintWords Go.Proofs.YtehpdkgjclnilaaW.PrintLast Go.Proofs.YtehpdkgjclnilaaW.PrintMore
attribute [local go_sem] max2_int min2_int max_two min_two max_three min_three max_four min_four   -- for this text's walks alone
set_option linter.unusedVariables false
set_option linter.unusedSimpArgs false
abbrev zb5_0 : Array Bool := #[false, false, false, false, false, false, false, false, false, false, false, false, false, false, false, false, false]
abbrev zb5_1 : Array Bool := #[true, false, false, false, false, false, false, false, false, false, false, false, false, false, false, false, false]
abbrev zb5_2 : Array Bool := #[true, true, false, false, false, false, false, false, false, false, false, false, false, false, false, false, false]
abbrev zb5_3 : Array Bool := #[true, true, false, false, false, true, false, false, false, false, false, false, false, false, false, false, false]
abbrev zb5_4 : Array Bool := #[true, true, false, false, false, true, false, false, false, false, true, false, false, false, false, false, false]
abbrev zb5_5 : Array Bool := #[true, true, true, false, false, true, false, false, false, false, true, false, false, false, false, false, false]
abbrev zb5_6 : Array Bool := #[true, true, true, true, false, true, false, false, false, false, true, false, false, false, false, false, false]
abbrev zb5_7 : Array Bool := #[true, true, true, true, false, true, true, false, false, false, true, false, false, false, false, false, false]
abbrev zb5_8 : Array Bool := #[true, true, true, true, false, true, true, true, false, false, true, false, false, false, false, false, false]
abbrev zb5_9 : Array Bool := #[true, true, true, true, false, true, true, true, false, false, true, true, false, false, false, false, false]
abbrev zb5_10 : Array Bool := #[true, true, true, true, false, true, true, true, false, false, true, true, true, false, false, false, false]
abbrev zb5_11 : Array Bool := #[true, true, true, true, true, true, true, true, false, false, true, true, true, false, false, false, false]
abbrev zb5_12 : Array Bool := #[true, true, true, true, true, true, true, true, true, false, true, true, true, false, false, false, false]
abbrev zb5_13 : Array Bool := #[true, true, true, true, true, true, true, true, true, true, true, true, true, false, false, false, false]
abbrev zb5_14 : Array Bool := #[true, true, true, true, true, true, true, true, true, true, true, true, true, true, false, false, false]
abbrev zb5_15 : Array Bool := #[true, true, true, true, true, true, true, true, true, true, true, true, true, true, true, false, false]
abbrev zb5_16 : Array Bool := #[true, true, true, true, true, true, true, true, true, true, true, true, true, true, true, true, false]
abbrev zb5_17 : Array Bool := #[true, true, true, true, true, true, true, true, true, true, true, true, true, true, true, true, true]
abbrev zb5_18 : Array Bool := #[false, false, false, false, false, false, false, false, false, false, false, false, false, false, false]
abbrev zb5_19 : Array Bool := #[true, false, false, false, false, false, false, false, false, false, false, false, false, false, false]
abbrev zb5_20 : Array Bool := #[true, true, false, false, false, false, false, false, false, false, false, false, false, false, false]
abbrev zb5_21 : Array Bool := #[true, true, true, false, false, false, false, false, false, false, false, false, false, false, false]
abbrev zb5_22 : Array Bool := #[true, true, true, true, false, false, false, false, false, false, false, false, false, false, false]
abbrev zb5_23 : Array Bool := #[true, true, true, true, false, false, true, false, false, false, false, false, false, false, false]
abbrev zb5_24 : Array Bool := #[true, true, true, true, false, false, true, true, false, false, false, false, false, false, false]
abbrev zb5_25 : Array Bool := #[true, true, true, true, false, false, true, true, true, false, false, false, false, false, false]
abbrev zb5_26 : Array Bool := #[true, true, true, true, true, false, true, true, true, false, false, false, false, false, false]
abbrev zb5_27 : Array Bool := #[true, true, true, true, true, false, true, true, true, true, false, false, false, false, false]
abbrev zb5_28 : Array Bool := #[true, true, true, true, true, true, true, true, true, true, true, true, true, false, false]
abbrev zb5_29 : Array Bool := #[true, true, true, true, true, true, true, true, true, true, true, true, false, false, false]
abbrev zb5_30 : Array Bool := #[true, true, true, true, true, true, true, true, true, true, true, false, true, false, false]
abbrev zb5_31 : Array Bool := #[true, true, true, true, true, true, true, true, true, true, false, true, true, false, false]
abbrev zb5_32 : Array Bool := #[true, true, true, true, true, true, true, true, true, true, true, false, false, false, false]
abbrev zb5_33 : Array Bool := #[true, true, true, true, true, true, true, true, true, true, false, true, false, false, false]
abbrev zb5_34 : Array Bool := #[true, true, true, true, true, true, true, true, true, true, false, false, true, false, false]
abbrev zb5_35 : Array Bool := #[true, true, true, true, true, false, true, true, true, true, false, true, true, false, false]
abbrev zb5_36 : Array Bool := #[true, true, true, true, true, true, true, true, true, true, false, false, false, false, false]
abbrev zb5_37 : Array Bool := #[true, true, true, true, true, false, true, true, true, true, false, true, false, false, false]
abbrev zb5_38 : Array Bool := #[true, true, true, true, true, false, true, true, true, true, false, false, true, false, false]
abbrev zb5_39 : Array Bool := #[true, true, true, true, true, true, true, true, true, true, true, true, true, true, false]
abbrev zb5_40 : Array Bool := #[true, true, true, true, true, true, true, true, true, true, true, true, true, true, true]

/-! ### lodestonelaw25_SchemaGets: function 3 -/
mutual
def lodestonelaw25_SchemaGets.l0 : Nat → List (S26) → ByteArray → ByteArray → Int → Option (Bool)
 | 0, _, _, _, _ => none
 | k + 1, x0, x1, x5, x6 => if x6 < (x0.length : Int) then (lodestonelaw25_SchemaGets.j1 k x0 x1 x5 x6 (decide (x6 < 9))) else (lodestonelaw25_SchemaGets.j1 k x0 x1 x5 x6 false)
def lodestonelaw25_SchemaGets.j1 : Nat → List (S26) → ByteArray → ByteArray → Int → Bool → Option (Bool)
 | 0, _, _, _, _, _ => none
 | k + 1, x0, x1, x5, x6, x27 => if x27 = true then (if 0 ≤ x6 then (if x6 < (x0.length : Int) then ((lodestonelaw25_few.f ((rd_T26 x0 x6).f0) ((rd_T26 x0 x6).f1) ((rd_T26 x0 x6).f2)).bind fun bt197 => ((lodestoneref04_Num.f k (IntKind.u64.wrap (bt197.1))).bind fun t201 => ((lodestoneref04_Num.f k (IntKind.u64.wrap (bt197.2.1))).bind fun t202 => (if t201.size + t202.size ≤ 9223372036854775807 then ((lodestoneref04_Num.f k (IntKind.u64.wrap (bt197.2.2))).bind fun t203 => (if (t201 ++ t202).size + t203.size ≤ 9223372036854775807 then (if x5.size + ((t201 ++ t202) ++ t203).size ≤ 9223372036854775807 then (lodestonelaw25_SchemaGets.l0 k x0 x1 (x5 ++ ((t201 ++ t202) ++ t203)) (wrap64 (x6 + 1))) else (none)) else (none))) else (none))))) else (none)) else (none)) else (if 0 ≤ (mn (x1.size : Int) 3) then (if (mn (x1.size : Int) 3) ≤ (x1.size : Int) then (if x5.size + (x1.extract 0 ((mn (x1.size : Int) 3) : Int).toNat).size ≤ 9223372036854775807 then ((schema_Get.f k (x5 ++ (x1.extract 0 ((mn (x1.size : Int) 3) : Int).toNat))).bind fun bt204 => (lodestonelaw25_SchemaGets.l1 k x0 x1 (x5 ++ (x1.extract 0 ((mn (x1.size : Int) 3) : Int).toNat)) bt204.1 bt204.2 true true 0)) else (none)) else (none)) else (none))
def lodestonelaw25_SchemaGets.l1 : Nat → List (S26) → ByteArray → ByteArray → List (S26) → Int → Bool → Bool → Int → Option (Bool)
 | 0, _, _, _, _, _, _, _, _ => none
 | k + 1, x0, x1, x5, x8, x9, x10, x11, x12 => if x12 < (x0.length : Int) then (lodestonelaw25_SchemaGets.j3 k x0 x1 x5 x8 x9 x10 x11 x12 (decide (x12 < 9))) else (lodestonelaw25_SchemaGets.j3 k x0 x1 x5 x8 x9 x10 x11 x12 false)
def lodestonelaw25_SchemaGets.j3 : Nat → List (S26) → ByteArray → ByteArray → List (S26) → Int → Bool → Bool → Int → Bool → Option (Bool)
 | 0, _, _, _, _, _, _, _, _, _ => none
 | k + 1, x0, x1, x5, x8, x9, x10, x11, x12, x70 => if x70 = true then (if x11 = true then (if 0 ≤ x12 then (if x12 < (x0.length : Int) then ((lodestonelaw25_few.f ((rd_T26 x0 x12).f0) ((rd_T26 x0 x12).f1) ((rd_T26 x0 x12).f2)).bind fun bt209 => ((lodestonelaw25_may.f bt209.1 bt209.2.1 bt209.2.2).bind fun t212 => (lodestonelaw25_SchemaGets.j4 k x0 x1 x5 x8 x9 x10 t212 x12))) else (none)) else (none)) else (lodestonelaw25_SchemaGets.j4 k x0 x1 x5 x8 x9 x10 false x12)) else (if x9 = 0 then ((lodestonelaw25_awake.f).bind fun t223 => (if t223 = true then (if x1.toList = ([] : List UInt8) then (if x10 = true then (if x11 = true then ((schema_Put.f k x8).bind fun t224 => (some (t224.toList == x5.toList))) else (some false)) else (some false)) else (some false)) else (some false))) else ((lodestonelaw25_awake.f).bind fun t225 => (if t225 = true then (if (x8.length : Int) = 0 then (if x1.toList = ([] : List UInt8) then (if x10 = true then (some (!x11)) else (some true)) else (some true)) else (some false)) else (some false))))
def lodestonelaw25_SchemaGets.j4 : Nat → List (S26) → ByteArray → ByteArray → List (S26) → Int → Bool → Bool → Int → Option (Bool)
 | 0, _, _, _, _, _, _, _, _ => none
 | k + 1, x0, x1, x5, x8, x9, x10, x11, x12 => if x12 > 0 then (if 0 ≤ (wrap64 (x12 - 1)) then (if (wrap64 (x12 - 1)) < (x0.length : Int) then ((lodestonelaw25_few.f ((rd_T26 x0 (wrap64 (x12 - 1))).f0) ((rd_T26 x0 (wrap64 (x12 - 1))).f1) ((rd_T26 x0 (wrap64 (x12 - 1))).f2)).bind fun bt214 => (if 0 ≤ x12 then (if x12 < (x0.length : Int) then ((lodestonelaw25_few.f ((rd_T26 x0 x12).f0) ((rd_T26 x0 x12).f1) ((rd_T26 x0 x12).f2)).bind fun bt218 => (if x10 = true then (if bt214.1 < bt218.1 then (lodestonelaw25_SchemaGets.l1 k x0 x1 x5 x8 x9 true x11 (wrap64 (x12 + 1))) else (if bt214.1 = bt218.1 then (lodestonelaw25_SchemaGets.l1 k x0 x1 x5 x8 x9 (decide (bt214.2.1 < bt218.2.1)) x11 (wrap64 (x12 + 1))) else (lodestonelaw25_SchemaGets.l1 k x0 x1 x5 x8 x9 false x11 (wrap64 (x12 + 1))))) else (lodestonelaw25_SchemaGets.l1 k x0 x1 x5 x8 x9 false x11 (wrap64 (x12 + 1))))) else (none)) else (none))) else (none)) else (none)) else (lodestonelaw25_SchemaGets.l1 k x0 x1 x5 x8 x9 x10 x11 (wrap64 (x12 + 1)))
end
def lodestonelaw25_SchemaGets.f (k : Nat) (l0 : List (S26)) (a1 : ByteArray) : Option (Bool) := (lodestoneref04_Num.f k (mn (l0.length : Int) 9)).bind fun t195 => (lodestonelaw25_SchemaGets.l0 k l0 a1 t195 0)
theorem lodestonelaw25_SchemaGets.mono_l : ∀ k, (∀ y0 y1 y2 y3, LeO (lodestonelaw25_SchemaGets.l0 k y0 y1 y2 y3) (lodestonelaw25_SchemaGets.l0 (k + 1) y0 y1 y2 y3)) ∧ (∀ y0 y1 y2 y3 y4, LeO (lodestonelaw25_SchemaGets.j1 k y0 y1 y2 y3 y4) (lodestonelaw25_SchemaGets.j1 (k + 1) y0 y1 y2 y3 y4)) ∧ (∀ y0 y1 y2 y3 y4 y5 y6 y7, LeO (lodestonelaw25_SchemaGets.l1 k y0 y1 y2 y3 y4 y5 y6 y7) (lodestonelaw25_SchemaGets.l1 (k + 1) y0 y1 y2 y3 y4 y5 y6 y7)) ∧ (∀ y0 y1 y2 y3 y4 y5 y6 y7 y8, LeO (lodestonelaw25_SchemaGets.j3 k y0 y1 y2 y3 y4 y5 y6 y7 y8) (lodestonelaw25_SchemaGets.j3 (k + 1) y0 y1 y2 y3 y4 y5 y6 y7 y8)) ∧ (∀ y0 y1 y2 y3 y4 y5 y6 y7, LeO (lodestonelaw25_SchemaGets.j4 k y0 y1 y2 y3 y4 y5 y6 y7) (lodestonelaw25_SchemaGets.j4 (k + 1) y0 y1 y2 y3 y4 y5 y6 y7))
 | 0 => ⟨fun _ _ _ _ r h => by simp [lodestonelaw25_SchemaGets.l0] at h, fun _ _ _ _ _ r h => by simp [lodestonelaw25_SchemaGets.j1] at h, fun _ _ _ _ _ _ _ _ r h => by simp [lodestonelaw25_SchemaGets.l1] at h, fun _ _ _ _ _ _ _ _ _ r h => by simp [lodestonelaw25_SchemaGets.j3] at h, fun _ _ _ _ _ _ _ _ r h => by simp [lodestonelaw25_SchemaGets.j4] at h⟩
 | k + 1 => by
  obtain ⟨ih0, ih1, ih2, ih3, ih4⟩ := lodestonelaw25_SchemaGets.mono_l k
  refine ⟨?_, ?_, ?_, ?_, ?_⟩
  ·intro y0 y1 y2 y3
   unfold lodestonelaw25_SchemaGets.l0
   repeat' first
   | (with_reducible exact ih0 _ _ _ _)
   | (with_reducible exact ih1 _ _ _ _ _)
   | (with_reducible exact ih2 _ _ _ _ _ _ _ _)
   | (with_reducible exact ih3 _ _ _ _ _ _ _ _ _)
   | (with_reducible exact ih4 _ _ _ _ _ _ _ _)
   | (with_reducible exact lodestoneref04_Num.mono _ _)
   | (with_reducible exact schema_Get.mono _ _)
   | (with_reducible exact schema_Put.mono _ _)
   | (with_reducible exact LeO.refl _)
   | (with_reducible exact LeO.none _)
   | (with_reducible refine LeO.ite ?_ ?_)
   | (with_reducible refine LeO.bind ?_ (fun _ => ?_))
   | exact ih0 _ _ _ _
   | exact ih1 _ _ _ _ _
   | exact ih2 _ _ _ _ _ _ _ _
   | exact ih3 _ _ _ _ _ _ _ _ _
   | exact ih4 _ _ _ _ _ _ _ _
   | exact lodestoneref04_Num.mono _ _
   | exact schema_Get.mono _ _
   | exact schema_Put.mono _ _
   | exact LeO.none _
   | refine LeO.ite ?_ ?_
   | refine LeO.bind ?_ (fun _ => ?_)
  ·intro y0 y1 y2 y3 y4
   unfold lodestonelaw25_SchemaGets.j1
   repeat' first
   | (with_reducible exact ih0 _ _ _ _)
   | (with_reducible exact ih1 _ _ _ _ _)
   | (with_reducible exact ih2 _ _ _ _ _ _ _ _)
   | (with_reducible exact ih3 _ _ _ _ _ _ _ _ _)
   | (with_reducible exact ih4 _ _ _ _ _ _ _ _)
   | (with_reducible exact lodestoneref04_Num.mono _ _)
   | (with_reducible exact schema_Get.mono _ _)
   | (with_reducible exact schema_Put.mono _ _)
   | (with_reducible exact LeO.refl _)
   | (with_reducible exact LeO.none _)
   | (with_reducible refine LeO.ite ?_ ?_)
   | (with_reducible refine LeO.bind ?_ (fun _ => ?_))
   | exact ih0 _ _ _ _
   | exact ih1 _ _ _ _ _
   | exact ih2 _ _ _ _ _ _ _ _
   | exact ih3 _ _ _ _ _ _ _ _ _
   | exact ih4 _ _ _ _ _ _ _ _
   | exact lodestoneref04_Num.mono _ _
   | exact schema_Get.mono _ _
   | exact schema_Put.mono _ _
   | exact LeO.none _
   | refine LeO.ite ?_ ?_
   | refine LeO.bind ?_ (fun _ => ?_)
  ·intro y0 y1 y2 y3 y4 y5 y6 y7
   unfold lodestonelaw25_SchemaGets.l1
   repeat' first
   | (with_reducible exact ih0 _ _ _ _)
   | (with_reducible exact ih1 _ _ _ _ _)
   | (with_reducible exact ih2 _ _ _ _ _ _ _ _)
   | (with_reducible exact ih3 _ _ _ _ _ _ _ _ _)
   | (with_reducible exact ih4 _ _ _ _ _ _ _ _)
   | (with_reducible exact lodestoneref04_Num.mono _ _)
   | (with_reducible exact schema_Get.mono _ _)
   | (with_reducible exact schema_Put.mono _ _)
   | (with_reducible exact LeO.refl _)
   | (with_reducible exact LeO.none _)
   | (with_reducible refine LeO.ite ?_ ?_)
   | (with_reducible refine LeO.bind ?_ (fun _ => ?_))
   | exact ih0 _ _ _ _
   | exact ih1 _ _ _ _ _
   | exact ih2 _ _ _ _ _ _ _ _
   | exact ih3 _ _ _ _ _ _ _ _ _
   | exact ih4 _ _ _ _ _ _ _ _
   | exact lodestoneref04_Num.mono _ _
   | exact schema_Get.mono _ _
   | exact schema_Put.mono _ _
   | exact LeO.none _
   | refine LeO.ite ?_ ?_
   | refine LeO.bind ?_ (fun _ => ?_)
  ·intro y0 y1 y2 y3 y4 y5 y6 y7 y8
   unfold lodestonelaw25_SchemaGets.j3
   repeat' first
   | (with_reducible exact ih0 _ _ _ _)
   | (with_reducible exact ih1 _ _ _ _ _)
   | (with_reducible exact ih2 _ _ _ _ _ _ _ _)
   | (with_reducible exact ih3 _ _ _ _ _ _ _ _ _)
   | (with_reducible exact ih4 _ _ _ _ _ _ _ _)
   | (with_reducible exact lodestoneref04_Num.mono _ _)
   | (with_reducible exact schema_Get.mono _ _)
   | (with_reducible exact schema_Put.mono _ _)
   | (with_reducible exact LeO.refl _)
   | (with_reducible exact LeO.none _)
   | (with_reducible refine LeO.ite ?_ ?_)
   | (with_reducible refine LeO.bind ?_ (fun _ => ?_))
   | exact ih0 _ _ _ _
   | exact ih1 _ _ _ _ _
   | exact ih2 _ _ _ _ _ _ _ _
   | exact ih3 _ _ _ _ _ _ _ _ _
   | exact ih4 _ _ _ _ _ _ _ _
   | exact lodestoneref04_Num.mono _ _
   | exact schema_Get.mono _ _
   | exact schema_Put.mono _ _
   | exact LeO.none _
   | refine LeO.ite ?_ ?_
   | refine LeO.bind ?_ (fun _ => ?_)
  ·intro y0 y1 y2 y3 y4 y5 y6 y7
   unfold lodestonelaw25_SchemaGets.j4
   repeat' first
   | (with_reducible exact ih0 _ _ _ _)
   | (with_reducible exact ih1 _ _ _ _ _)
   | (with_reducible exact ih2 _ _ _ _ _ _ _ _)
   | (with_reducible exact ih3 _ _ _ _ _ _ _ _ _)
   | (with_reducible exact ih4 _ _ _ _ _ _ _ _)
   | (with_reducible exact lodestoneref04_Num.mono _ _)
   | (with_reducible exact schema_Get.mono _ _)
   | (with_reducible exact schema_Put.mono _ _)
   | (with_reducible exact LeO.refl _)
   | (with_reducible exact LeO.none _)
   | (with_reducible refine LeO.ite ?_ ?_)
   | (with_reducible refine LeO.bind ?_ (fun _ => ?_))
   | exact ih0 _ _ _ _
   | exact ih1 _ _ _ _ _
   | exact ih2 _ _ _ _ _ _ _ _
   | exact ih3 _ _ _ _ _ _ _ _ _
   | exact ih4 _ _ _ _ _ _ _ _
   | exact lodestoneref04_Num.mono _ _
   | exact schema_Get.mono _ _
   | exact schema_Put.mono _ _
   | exact LeO.none _
   | refine LeO.ite ?_ ?_
   | refine LeO.bind ?_ (fun _ => ?_)
theorem lodestonelaw25_SchemaGets.mono : ∀ a0 a1 k, LeO (lodestonelaw25_SchemaGets.f k a0 a1) (lodestonelaw25_SchemaGets.f (k + 1) a0 a1) := by
 intro a0 a1 k
 obtain ⟨ih0, ih1, ih2, ih3, ih4⟩ := lodestonelaw25_SchemaGets.mono_l k
 unfold lodestonelaw25_SchemaGets.f
 repeat' first
   | (with_reducible exact ih0 _ _ _ _)
   | (with_reducible exact ih1 _ _ _ _ _)
   | (with_reducible exact ih2 _ _ _ _ _ _ _ _)
   | (with_reducible exact ih3 _ _ _ _ _ _ _ _ _)
   | (with_reducible exact ih4 _ _ _ _ _ _ _ _)
   | (with_reducible exact lodestoneref04_Num.mono _ _)
   | (with_reducible exact schema_Get.mono _ _)
   | (with_reducible exact schema_Put.mono _ _)
   | (with_reducible exact LeO.refl _)
   | (with_reducible exact LeO.none _)
   | (with_reducible refine LeO.ite ?_ ?_)
   | (with_reducible refine LeO.bind ?_ (fun _ => ?_))
   | exact ih0 _ _ _ _
   | exact ih1 _ _ _ _ _
   | exact ih2 _ _ _ _ _ _ _ _
   | exact ih3 _ _ _ _ _ _ _ _ _
   | exact ih4 _ _ _ _ _ _ _ _
   | exact lodestoneref04_Num.mono _ _
   | exact schema_Get.mono _ _
   | exact schema_Put.mono _ _
   | exact LeO.none _
   | refine LeO.ite ?_ ?_
   | refine LeO.bind ?_ (fun _ => ?_)
def lodestonelaw25_SchemaGets.T6 : Bool × List (List Nat × List Nat) := (true, [([], []), ([], []), ([1], [1]), ([2], [2]), ([3], [3]), ([], []), ([5], [5]), ([6], [6]), ([7, 4], [7]), ([4, 8], [4, 8]), ([], []), ([10], [10]), ([11], [11]), ([12, 8], [12]), ([9, 13], [9, 13]), ([0, 14], [0, 14]), ([15, 13, 0, 1, 2, 3, 4, 5, 6, 7, 8, 9, 10, 11, 12, 13, 14, 15], [0, 15])])
def lodestonelaw25_SchemaGets.B6 : List Nat := [0, 0, 2, 6, 14, 0, 32, 96, 254, 510, 0, 1024, 3072, 7678, 16382, 32767, 65535]
theorem lodestonelaw25_SchemaGets.tab6 : rtab .any (opsOf Try.f3 6) = lodestonelaw25_SchemaGets.T6 := by kernel_rfl
theorem lodestonelaw25_SchemaGets.bits6 : waitsOk lodestonelaw25_SchemaGets.T6.2 lodestonelaw25_SchemaGets.B6 = true := by kernel_rfl
def lodestonelaw25_SchemaGets.T15 : Bool × List (List Nat × List Nat) := (true, [([], []), ([], []), ([1], [1]), ([0, 2], [0, 2]), ([3], [3]), ([4], [4]), ([], []), ([], []), ([6, 7], [6, 7]), ([8], [8]), ([9, 5], [9]), ([], []), ([], []), ([11, 5, 10, 0, 1, 2, 3, 4, 5, 11, 12], [5, 11]), ([12, 10, 13, 0, 1, 2, 3, 4, 5, 6, 7, 8, 9, 10, 11, 12, 13], [10, 12])])
def lodestonelaw25_SchemaGets.B15 : List Nat := [0, 0, 2, 7, 15, 31, 0, 0, 192, 448, 1023, 0, 0, 8191, 16383]
theorem lodestonelaw25_SchemaGets.tab15 : rtab .any (opsOf Try.f3 15) = lodestonelaw25_SchemaGets.T15 := by kernel_rfl
theorem lodestonelaw25_SchemaGets.bits15 : waitsOk lodestonelaw25_SchemaGets.T15.2 lodestonelaw25_SchemaGets.B15 = true := by kernel_rfl
set_option maxHeartbeats 8000000 in
set_option maxRecDepth 100000 in
theorem lodestonelaw25_SchemaGets.calls (k : Nat) (A0 : Option Addr) (c0 : Nat) (l0 : List (S26)) (a1 : ByteArray) (r : Bool) (w : World) (hr0 : Kd.C k26 w A0 l0.length l0) (hc0 : l0.length ≤ c0) (h : lodestonelaw25_SchemaGets.f k l0 a1 = some r) :
  Calls Try.prog 3 #[.slice A0 l0.length c0, .string a1] w fun e w' => e = .returned (.bool r) ∧ Below w.heap.size w w' := by
 have hu26 := Try.underlying26
 have HR0 := Aside0.mk hr0
 have HC0 := Aside0.mk hc0
 clear hr0 hc0
 have HB := Aside0.mk (Below.refl w.heap.size w)
 have H : ((lodestoneref04_Num.f k (mn (l0.length : Int) 9)).bind fun t195 => (lodestonelaw25_SchemaGets.l0 k l0 a1 t195 0)) = some r := h
 clear h
 obtain ⟨ji3, hji3⟩ : ∃ j_ : Int, (mn (l0.length : Int) 9) = j_ := ⟨_, rfl⟩
 replace H : ((lodestoneref04_Num.f k (ji3)).bind fun t195 => (lodestonelaw25_SchemaGets.l0 k l0 a1 t195 0)) = some r := by first | (rw [hji3] at H; exact H) | (simp only [hji3] at H ⊢; exact H)
 (try (have hji3h : ji3 ≤ 9 := by (rw [← hji3]; unfold mn; (repeat' split) <;> omega)))
 (try (have hji3g : ji3 ≤ 64 := by omega))
 (try (have hji3l : 0 ≤ ji3 := by (rw [← hji3]; unfold mn; (repeat' split) <;> omega)))
 (try (have hji3m : 0 ≤ ji3 := by omega))
 have hji3_ : (if 9 < (l0.length : Int) then 9 else (l0.length : Int)) = ji3 := hji3
 replace H := Option.bind_eq_some_iff.mp H
 obtain ⟨t195, A40, H⟩ := H
 replace H : (lodestonelaw25_SchemaGets.l0 k l0 a1 t195 0) = some r := H
 have A4 := Aside0.mk A40
 clear A40
 have H' := Aside0.mk H
 clear H
 go_enter Try.func3, Try.ntmps3
 go_wp2_with (first | ((with_reducible refine gate_callee (f := 5) rfl ?_); refine goesL_ (some 19) rfl rfl Try.func5 (by kernel_rfl) rfl #[.int .u64 ji3] rfl (by (try simp only [List.map_toArray, List.map_cons, List.map_nil]); first | done | (simp only [hji3]; rfl) | rfl | (simp only [List.length_drop, List.length_take]; rfl)) ?_; (with_reducible refine (lodestoneref04_Num.calls k ji3 t195 _ A4.out).mono ?_); rintro e w5 ⟨rfl, hb⟩; refine ⟨_, rfl, ?_⟩; have n0_ := Aside0.mk (below_step (by repeat (first | (with_reducible first | exact HB.out | apply below_alloc | apply pw_below_drewN | apply below_drew1) | exact HB.out)) hb); clear HB; have HB := n0_; clear n0_; (try clear hb); (try clear hb2); (try clear hk); (try clear hi)))
 go_loopg [5, 6] k (fun kq v5 v6 w' => ∃ (x5_1 : ByteArray) (x6_1 : Int), v5 = .string x5_1 ∧ v6 = .int .i64 x6_1 ∧ Aside0 (lodestonelaw25_SchemaGets.l0 kq l0 a1 x5_1 x6_1 = some r) ∧ Aside0 (kq ≤ k) ∧ Aside0 (Below w.heap.size w w'))
 case atStart => exact ⟨(t195), (0), (by first | rfl | (simp; done) | (simp [*]; done)), (by first | rfl | (simp; done) | (simp [*]; done)), H', ⟨Nat.le_refl _⟩, ⟨by repeat (first | (with_reducible first | exact HB.out | apply below_alloc | apply pw_below_drewN | apply below_drew1) | exact HB.out)⟩⟩
 case round =>
  clear H'
  try clear p2
  try clear c3
  try clear c5
  obtain ⟨x5_1, x6_1, rfl, rfl, HA, HK1, HB⟩ := hrel
  cases gk with
  | zero => exact absurd HA.out (by simp [lodestonelaw25_SchemaGets.l0])
  | succ k1 =>
   have H := HA.out
   clear HA
   simp only [lodestonelaw25_SchemaGets.l0] at H
   have HC6 := Aside0.mk H
   clear H
   go_upto_region 3 with (fail)
   go_cut [27] (fun v27 wc => ∃ (kq : Nat) (x27_5 : Bool), v27 = .bool x27_5 ∧ Aside0 (lodestonelaw25_SchemaGets.j1 kq l0 a1 x5_1 x6_1 x27_5 = some r) ∧ Aside0 (kq ≤ k1) ∧ Aside0 (Below w.heap.size w wc))
   case first =>
    have H := HC6.out
    clear HC6
    by_cases c7 : x6_1 < (l0.length : Int)
    ·rw [if_pos c7] at H
     have c7b0 : decide (x6_1 < (l0.length : Int)) = true := decide_eq_true c7
     clear c7
     (first | rw [c7b0] | (simp only [i64_w, i32_w]; rw [c7b0]) | skip)
     have H' := Aside0.mk H
     clear H
     go_wp2
     go_meet
     case rel => exact ⟨_, (decide (x6_1 < 9)), (by first | rfl | (simp; done) | (simp [*]; done)), H', ⟨by have := HK1.out; first | omega | exact Nat.le_refl _⟩, ⟨by repeat (first | (with_reducible first | exact HB.out | apply below_alloc | apply pw_below_drewN | apply below_drew1) | exact HB.out)⟩⟩
    ·rw [if_neg c7] at H
     have c7b0 : decide (x6_1 < (l0.length : Int)) = false := decide_eq_false c7
     clear c7
     (first | rw [c7b0] | (simp only [i64_w, i32_w]; rw [c7b0]) | skip)
     have H' := Aside0.mk H
     clear H
     go_wp2
     go_meet
     case rel => exact ⟨_, (false), (by first | rfl | (simp; done) | (simp [*]; done)), H', ⟨by have := HK1.out; first | omega | exact Nat.le_refl _⟩, ⟨by repeat (first | (with_reducible first | exact HB.out | apply below_alloc | apply pw_below_drewN | apply below_drew1) | exact HB.out)⟩⟩
   case rest =>
    clear HC6
    try clear p2
    try clear c3
    try clear c5
    try clear c7
    try clear c7b0
    try clear p2
    obtain ⟨kq, x27_5, rfl, HA, HJ5, HB⟩ := hcut
    cases kq with
    | zero => exact absurd HA.out (by simp [lodestonelaw25_SchemaGets.j1])
    | succ kj5 =>
     have H := HA.out
     clear HA
     simp only [lodestonelaw25_SchemaGets.j1] at H
     by_cases c8 : x27_5 = true
     ·subst c8
      have H1 : (if 0 ≤ x6_1 then (if x6_1 < (l0.length : Int) then ((lodestonelaw25_few.f ((rd_T26 l0 x6_1).f0) ((rd_T26 l0 x6_1).f1) ((rd_T26 l0 x6_1).f2)).bind fun bt197 => ((lodestoneref04_Num.f kj5 (IntKind.u64.wrap (bt197.1))).bind fun t201 => ((lodestoneref04_Num.f kj5 (IntKind.u64.wrap (bt197.2.1))).bind fun t202 => (if t201.size + t202.size ≤ 9223372036854775807 then ((lodestoneref04_Num.f kj5 (IntKind.u64.wrap (bt197.2.2))).bind fun t203 => (if (t201 ++ t202).size + t203.size ≤ 9223372036854775807 then (if x5_1.size + ((t201 ++ t202) ++ t203).size ≤ 9223372036854775807 then (lodestonelaw25_SchemaGets.l0 kj5 l0 a1 (x5_1 ++ ((t201 ++ t202) ++ t203)) (wrap64 (x6_1 + 1))) else (none)) else (none))) else (none))))) else (none)) else (none)) = some r := by rw [if_pos rfl] at H; exact H
      clear H
      have H := H1
      clear H1
      by_cases c9 : 0 ≤ x6_1
      ·rw [if_pos c9] at H
       have c9b0 : decide (0 ≤ x6_1) = true := decide_eq_true c9
       clear c9
       by_cases c10 : x6_1 < (l0.length : Int)
       ·rw [if_pos c10] at H
        have c10b0 : decide (x6_1 < (l0.length : Int)) = true := decide_eq_true c10
        clear c10
        replace H := Option.bind_eq_some_iff.mp H
        obtain ⟨⟨t197, t198, t199⟩, A110, H⟩ := H
        replace H : ((lodestoneref04_Num.f kj5 (IntKind.u64.wrap (t197))).bind fun t201 => ((lodestoneref04_Num.f kj5 (IntKind.u64.wrap (t198))).bind fun t202 => (if t201.size + t202.size ≤ 9223372036854775807 then ((lodestoneref04_Num.f kj5 (IntKind.u64.wrap (t199))).bind fun t203 => (if (t201 ++ t202).size + t203.size ≤ 9223372036854775807 then (if x5_1.size + ((t201 ++ t202) ++ t203).size ≤ 9223372036854775807 then (lodestonelaw25_SchemaGets.l0 kj5 l0 a1 (x5_1 ++ ((t201 ++ t202) ++ t203)) (wrap64 (x6_1 + 1))) else (none)) else (none))) else (none)))) = some r := H
        have A11 := Aside0.mk A110
        clear A110
        replace H := Option.bind_eq_some_iff.mp H
        obtain ⟨t201, A120, H⟩ := H
        replace H : ((lodestoneref04_Num.f kj5 (IntKind.u64.wrap (t198))).bind fun t202 => (if t201.size + t202.size ≤ 9223372036854775807 then ((lodestoneref04_Num.f kj5 (IntKind.u64.wrap (t199))).bind fun t203 => (if (t201 ++ t202).size + t203.size ≤ 9223372036854775807 then (if x5_1.size + ((t201 ++ t202) ++ t203).size ≤ 9223372036854775807 then (lodestonelaw25_SchemaGets.l0 kj5 l0 a1 (x5_1 ++ ((t201 ++ t202) ++ t203)) (wrap64 (x6_1 + 1))) else (none)) else (none))) else (none))) = some r := H
        have A12 := Aside0.mk A120
        clear A120
        replace H := Option.bind_eq_some_iff.mp H
        obtain ⟨t202, A130, H⟩ := H
        replace H : (if t201.size + t202.size ≤ 9223372036854775807 then ((lodestoneref04_Num.f kj5 (IntKind.u64.wrap (t199))).bind fun t203 => (if (t201 ++ t202).size + t203.size ≤ 9223372036854775807 then (if x5_1.size + ((t201 ++ t202) ++ t203).size ≤ 9223372036854775807 then (lodestonelaw25_SchemaGets.l0 kj5 l0 a1 (x5_1 ++ ((t201 ++ t202) ++ t203)) (wrap64 (x6_1 + 1))) else (none)) else (none))) else (none)) = some r := H
        have A13 := Aside0.mk A130
        clear A130
        by_cases c14 : t201.size + t202.size ≤ 9223372036854775807
        ·rw [if_pos c14] at H
         have c14b0 := eq_true c14
         have c14b1 : decide (t201.size + t202.size ≤ 9223372036854775807) = true := decide_eq_true c14
         try have c14b2 : (9223372036854775807 < t201.size + t202.size) = False := eq_false (Nat.not_lt.2 c14)
         replace H := Option.bind_eq_some_iff.mp H
         obtain ⟨t203, A150, H⟩ := H
         replace H : (if (t201 ++ t202).size + t203.size ≤ 9223372036854775807 then (if x5_1.size + ((t201 ++ t202) ++ t203).size ≤ 9223372036854775807 then (lodestonelaw25_SchemaGets.l0 kj5 l0 a1 (x5_1 ++ ((t201 ++ t202) ++ t203)) (wrap64 (x6_1 + 1))) else (none)) else (none)) = some r := H
         have A15 := Aside0.mk A150
         clear A150
         by_cases c16 : (t201 ++ t202).size + t203.size ≤ 9223372036854775807
         ·rw [if_pos c16] at H
          have c16b0 := eq_true c16
          have c16b1 : decide ((t201 ++ t202).size + t203.size ≤ 9223372036854775807) = true := decide_eq_true c16
          try have c16b2 : (9223372036854775807 < (t201 ++ t202).size + t203.size) = False := eq_false (Nat.not_lt.2 c16)
          have c16q := c16
          simp only [ByteArray.size_append] at c16q
          have c16b9 := eq_false (Nat.not_lt.2 c16q)
          clear c16q
          by_cases c17 : x5_1.size + ((t201 ++ t202) ++ t203).size ≤ 9223372036854775807
          ·rw [if_pos c17] at H
           have c17b0 := eq_true c17
           have c17b1 : decide (x5_1.size + ((t201 ++ t202) ++ t203).size ≤ 9223372036854775807) = true := decide_eq_true c17
           try have c17b2 : (9223372036854775807 < x5_1.size + ((t201 ++ t202) ++ t203).size) = False := eq_false (Nat.not_lt.2 c17)
           have c17q := c17
           simp only [ByteArray.size_append] at c17q
           have c17b9 := eq_false (Nat.not_lt.2 c17q)
           clear c17q
           have H' := Aside0.mk H
           clear H
           have p196 : 0 ≤ (x6_1 : Int) := of_decide_eq_true (by first | (with_reducible assumption) | assumption)
           have q196 : x6_1 < (l0.length : Int) := of_decide_eq_true (by first | (with_reducible assumption) | assumption)
           obtain ⟨ad196, e196, hx196_0, hx196_1, hx196_2⟩ := at_T26 HR0.out x6_1 p196 q196
           cases e196
           replace hx196_0 := (HB.out.cell (World.block_lt_of_cell? w _ hx196_0)).trans hx196_0
           replace hx196_1 := (HB.out.cell (World.block_lt_of_cell? w _ hx196_1)).trans hx196_1
           replace hx196_2 := (HB.out.cell (World.block_lt_of_cell? w _ hx196_2)).trans hx196_2
           replace p196 := eq_true p196
           replace q196 := eq_true q196
           try go_wp2_with (first | ((with_reducible refine gate_callee (f := 6) rfl ?_); refine goesL_ (some 34) rfl rfl Try.func6 (by kernel_rfl) rfl #[.agg #[.int .i64 ((rd_T26 l0 x6_1).f0), .int .i64 ((rd_T26 l0 x6_1).f1), .int .i64 ((rd_T26 l0 x6_1).f2)]] rfl (by (try simp only [List.map_toArray, List.map_cons, List.map_nil]); first | done | rfl | (simp only [List.length_drop, List.length_take]; rfl)) ?_; (with_reducible refine (lodestonelaw25_few.calls ((rd_T26 l0 x6_1).f0) ((rd_T26 l0 x6_1).f1) ((rd_T26 l0 x6_1).f2) t197 t198 t199 _ A11.out).mono ?_); rintro e w18 ⟨rfl, hb⟩; refine ⟨_, rfl, ?_⟩; have n0_ := Aside0.mk (below_step (by repeat (first | (with_reducible first | exact HB.out | apply below_alloc | apply pw_below_drewN | apply below_drew1) | exact HB.out)) hb); clear HB; have HB := n0_; clear n0_; (try clear hb); (try clear hb2); (try clear hk); (try clear hi)) | ((with_reducible refine gate_dst (N := 7) rfl ?_); (try (refine gate_guard (by rfl) ?_; dsimp only)); refine box_event ?hg (N := 7) ?hd (cs := #[.int .i64 0, .int .i64 0, .int .i64 0]) (t := 26) ?hr ?_; (case hd => rfl); (case hg => rfl); (case hr => first | (go_simp; done) | (go_simp; rfl)); intro gb200 hg w19 hbox hb; have n0_ := Aside0.mk (below_step (by repeat (first | (with_reducible first | exact HB.out | apply below_alloc | apply pw_below_drewN | apply below_drew1) | exact HB.out)) hb); have n1_ := Aside0.mk (hbox); have n2_ := Aside0.mk ((by rw [hg]; exact (below_size (by repeat (first | (with_reducible first | exact HB.out | apply below_alloc | apply pw_below_drewN | apply below_drew1) | exact HB.out))) : w.heap.size ≤ gb200)); have n3_ := Aside0.mk ((by rw [hg]; exact (below_size (by repeat (first | (with_reducible first | exact HB.out | apply below_alloc | apply pw_below_drewN | apply below_drew1) | exact HB.out))) : w.heap.size ≤ gb200)); clear HB; have HB := n0_; have BK200 := n1_; have GW200 := n2_; have GE200 := n3_; clear n0_ n1_ n2_ n3_; clear hb hbox hg; have hcz20_0 : w19.cell? ⟨gb200, 0, none⟩ = some (.int .i64 0) := (blk_cell BK200.out 0).trans rfl; have hcz20_1 : w19.cell? ⟨gb200, 1, none⟩ = some (.int .i64 0) := (blk_cell BK200.out 1).trans rfl; have hcz20_2 : w19.cell? ⟨gb200, 2, none⟩ = some (.int .i64 0) := (blk_cell BK200.out 2).trans rfl; have hfz20_0 := blk_frozen BK200.out 0; have hfz20_1 := blk_frozen BK200.out 1; have hfz20_2 := blk_frozen BK200.out 2))
           have n0_ : Aside0 ((((w19.setCell ⟨gb200, 0, none⟩ (.int .i64 t197)).setCell ⟨gb200, 1, none⟩ (.int .i64 t198)).setCell ⟨gb200, 2, none⟩ (.int .i64 t199)).heap[gb200]? = some (.cells #[.int .i64 t197, .int .i64 t198, .int .i64 t199] 26 (0, 0))) := ⟨by (with_reducible repeat (first | refine blk_drewN ?_ _ | refine blk_drew ?_ | refine blk_alloc ?_ _)); refine blk_put (cs := #[.int .i64 t197, .int .i64 t198, .int .i64 0]) ?_ 2 _ rfl; (with_reducible repeat (first | refine blk_drewN ?_ _ | refine blk_drew ?_ | refine blk_alloc ?_ _)); refine blk_put (cs := #[.int .i64 t197, .int .i64 0, .int .i64 0]) ?_ 1 _ rfl; (with_reducible repeat (first | refine blk_drewN ?_ _ | refine blk_drew ?_ | refine blk_alloc ?_ _)); refine blk_put (cs := #[.int .i64 0, .int .i64 0, .int .i64 0]) ?_ 0 _ rfl; (with_reducible repeat (first | refine blk_drewN ?_ _ | refine blk_drew ?_ | refine blk_alloc ?_ _)); exact BK200.out⟩
           have n1_ : Aside0 (Below w.heap.size w (((w19.setCell ⟨gb200, 0, none⟩ (.int .i64 t197)).setCell ⟨gb200, 1, none⟩ (.int .i64 t198)).setCell ⟨gb200, 2, none⟩ (.int .i64 t199))) := ⟨by repeat (first | (with_reducible first | exact HB.out | apply below_alloc | apply pw_below_drewN | apply below_drew1 | refine below_set ?_ GE200.out) | exact HB.out)⟩
           (try clear BK200)
           (try clear HB)
           generalize (((w19.setCell ⟨gb200, 0, none⟩ (.int .i64 t197)).setCell ⟨gb200, 1, none⟩ (.int .i64 t198)).setCell ⟨gb200, 2, none⟩ (.int .i64 t199)) = w21 at n0_ n1_ ⊢
           have BK200 := n0_
           have HB := n1_
           clear n0_ n1_
           have n0_ := Aside0.mk (blk_drew BK200.out)
           have n1_ := Aside0.mk (below_drew1 HB.out)
           clear BK200
           clear HB
           have BK200 := n0_
           have HB := n1_
           clear n0_ n1_
           refine start_ (n := 17) (S := fun w' => w'.cell? ⟨gb200, 0, none⟩ = some (.int .i64 t197) ∧ w'.cell? ⟨gb200, 1, none⟩ = some (.int .i64 t198) ∧ w'.cell? ⟨gb200, 2, none⟩ = some (.int .i64 t199)) (ds := []) zb5_0 (by kernel_rfl) rfl rfl ⟨(blk_cell BK200.out 0).trans rfl, (blk_cell BK200.out 1).trans rfl, (blk_cell BK200.out 2).trans rfl⟩ (fun hHeld => ?_); refine with_tabW lodestonelaw25_SchemaGets.tab6 lodestonelaw25_SchemaGets.bits6 (fun HT_ HW_ => ?_)
           generalize w21.drew = w22 at BK200 HB hHeld ⊢
           refine pure_ (i := 0) (N := some 35) (v := ?_) (a' := ?_) zb5_1 rfl rfl (any_of HT_.out (by kernel_rfl)) (fun _ _ _ h => h) (Or.inl ⟨by rfl, ?_⟩) ?_ ?_
           rotate_left
           ·intro w'
            go_simp
            with_reducible rfl
           rotate_left
           ·simp only [Act.put, List.setIfInBounds_toArray, List.set_cons_zero, List.set_cons_succ, i64_w, i32_w]
            rfl
           refine pure_ (i := 1) (N := some 36) (v := ?_) (a' := ?_) zb5_2 rfl rfl (any_of HT_.out (by kernel_rfl)) (fun _ _ _ h => h) (Or.inl ⟨by rfl, ?_⟩) ?_ ?_
           rotate_left
           ·intro w'
            go_simp
            with_reducible rfl
           rotate_left
           ·simp only [Act.put, List.setIfInBounds_toArray, List.set_cons_zero, List.set_cons_succ, i64_w, i32_w]
            rfl
           refine pure_ (i := 5) (N := some 40) (v := ?_) (a' := ?_) zb5_3 rfl rfl (any_of HT_.out (by kernel_rfl)) (fun _ _ _ h => h) (Or.inl ⟨by rfl, ?_⟩) ?_ ?_
           rotate_left
           ·intro w'
            go_simp
            with_reducible rfl
           rotate_left
           ·simp only [Act.put, List.setIfInBounds_toArray, List.set_cons_zero, List.set_cons_succ, i64_w, i32_w]
            rfl
           refine pure_ (i := 10) (N := some 45) (v := ?_) (a' := ?_) zb5_4 rfl rfl (any_of HT_.out (by kernel_rfl)) (fun _ _ _ h => h) (Or.inl ⟨by rfl, ?_⟩) ?_ ?_
           rotate_left
           ·intro w'
            go_simp
            with_reducible rfl
           rotate_left
           ·simp only [Act.put, List.setIfInBounds_toArray, List.set_cons_zero, List.set_cons_succ, i64_w, i32_w]
            rfl
           refine take_ (i := 2) (N := some 37) (v := ?_) (a' := ?_) zb5_5 rfl rfl (take_ofW HT_.out HW_.out (by kernel_rfl)) (fun _ _ _ h => h) (Or.inl ⟨by rfl, ?_⟩) hHeld ?_ ?_
           rotate_left
           ·rintro w' ⟨s0, s1, s2⟩
            go_simp
            with_reducible rfl
           rotate_left
           ·simp only [Act.put, List.setIfInBounds_toArray, List.set_cons_zero, List.set_cons_succ, i64_w, i32_w]
            rfl
           refine pure_ (i := 3) (N := some 38) (v := ?_) (a' := ?_) zb5_6 rfl rfl (any_of HT_.out (by kernel_rfl)) (fun _ _ _ h => h) (Or.inl ⟨by rfl, ?_⟩) ?_ ?_
           rotate_left
           ·intro w'
            go_simp
            with_reducible rfl
           rotate_left
           ·simp only [Act.put, List.setIfInBounds_toArray, List.set_cons_zero, List.set_cons_succ, i64_w, i32_w]
            rfl
           refine take_ (i := 6) (N := some 41) (v := ?_) (a' := ?_) zb5_7 rfl rfl (take_ofW HT_.out HW_.out (by kernel_rfl)) (fun _ _ _ h => h) (Or.inl ⟨by rfl, ?_⟩) hHeld ?_ ?_
           rotate_left
           ·rintro w' ⟨s0, s1, s2⟩
            go_simp
            with_reducible rfl
           rotate_left
           ·simp only [Act.put, List.setIfInBounds_toArray, List.set_cons_zero, List.set_cons_succ, i64_w, i32_w]
            rfl
           refine pure_ (i := 7) (N := some 42) (v := ?_) (a' := ?_) zb5_8 rfl rfl (any_of HT_.out (by kernel_rfl)) (fun _ _ _ h => h) (Or.inl ⟨by rfl, ?_⟩) ?_ ?_
           rotate_left
           ·intro w'
            go_simp
            with_reducible rfl
           rotate_left
           ·simp only [Act.put, List.setIfInBounds_toArray, List.set_cons_zero, List.set_cons_succ, i64_w, i32_w]
            rfl
           refine take_ (i := 11) (N := some 46) (v := ?_) (a' := ?_) zb5_9 rfl rfl (take_ofW HT_.out HW_.out (by kernel_rfl)) (fun _ _ _ h => h) (Or.inl ⟨by rfl, ?_⟩) hHeld ?_ ?_
           rotate_left
           ·rintro w' ⟨s0, s1, s2⟩
            go_simp
            with_reducible rfl
           rotate_left
           ·simp only [Act.put, List.setIfInBounds_toArray, List.set_cons_zero, List.set_cons_succ, i64_w, i32_w]
            rfl
           refine pure_ (i := 12) (N := some 47) (v := ?_) (a' := ?_) zb5_10 rfl rfl (any_of HT_.out (by kernel_rfl)) (fun _ _ _ h => h) (Or.inl ⟨by rfl, ?_⟩) ?_ ?_
           rotate_left
           ·intro w'
            go_simp
            with_reducible rfl
           rotate_left
           ·simp only [Act.put, List.setIfInBounds_toArray, List.set_cons_zero, List.set_cons_succ, i64_w, i32_w]
            rfl
           refine one_ (i := 4) (N := some 39) zb5_11 rfl rfl (one_of HT_.out (by kernel_rfl)) (by decide) (fun K hK => ?_)
           refine goes_ Try.func5 (by kernel_rfl) rfl #[.int .u64 (IntKind.u64.wrap (t197))] (by rfl) rfl rfl (by (try simp only [List.map_toArray, List.map_cons, List.map_nil]); first | done | rfl | (simp only [List.length_drop, List.length_take]; rfl)) ?_
           with_reducible refine (lodestoneref04_Num.calls kj5 (IntKind.u64.wrap (t197)) t201 _ A12.out).mono ?_
           rintro e w23 ⟨rfl, hb⟩
           refine ⟨_, rfl, ?_⟩
           have n0_ := Aside0.mk (blk_below (g := gb200) (o := .cells #[.int .i64 t197, .int .i64 t198, .int .i64 t199] 26 (0, 0)) (by (with_reducible repeat (first | refine blk_drewN ?_ _ | refine blk_drew ?_ | refine blk_alloc ?_ _)); exact BK200.out) hb)
           have n1_ := Aside0.mk (below_step (by repeat (first | (with_reducible first | exact HB.out | apply below_alloc | apply pw_below_drewN | apply below_drew1 | refine below_set ?_ GE200.out) | exact HB.out)) hb)
           clear BK200
           clear HB
           have BK200 := n0_
           have HB := n1_
           clear n0_ n1_
           (try clear hb)
           (try clear hb2)
           (try clear hk)
           (try clear hi)
           refine hK.out _ _ ⟨(blk_cell BK200.out 0).trans rfl, (blk_cell BK200.out 1).trans rfl, (blk_cell BK200.out 2).trans rfl⟩ (fun hHeld => ?_)
           clear hK K
           refine norm_ (a' := ?_) ?_ ?_
           rotate_left
           ·show Act.put _ (some 39) _ = _
            simp only [Act.put, List.setIfInBounds_toArray, List.set_cons_zero, List.set_cons_succ, i64_w, i32_w]
            rfl
           refine one_ (i := 8) (N := some 43) zb5_12 rfl rfl (one_of HT_.out (by kernel_rfl)) (by decide) (fun K hK => ?_)
           refine goes_ Try.func5 (by kernel_rfl) rfl #[.int .u64 (IntKind.u64.wrap (t198))] (by rfl) rfl rfl (by (try simp only [List.map_toArray, List.map_cons, List.map_nil]); first | done | rfl | (simp only [List.length_drop, List.length_take]; rfl)) ?_
           with_reducible refine (lodestoneref04_Num.calls kj5 (IntKind.u64.wrap (t198)) t202 _ A13.out).mono ?_
           rintro e w24 ⟨rfl, hb⟩
           refine ⟨_, rfl, ?_⟩
           have n0_ := Aside0.mk (blk_below (g := gb200) (o := .cells #[.int .i64 t197, .int .i64 t198, .int .i64 t199] 26 (0, 0)) (by (with_reducible repeat (first | refine blk_drewN ?_ _ | refine blk_drew ?_ | refine blk_alloc ?_ _)); exact BK200.out) hb)
           have n1_ := Aside0.mk (below_step (by repeat (first | (with_reducible first | exact HB.out | apply below_alloc | apply pw_below_drewN | apply below_drew1 | refine below_set ?_ GE200.out) | exact HB.out)) hb)
           clear BK200
           clear HB
           have BK200 := n0_
           have HB := n1_
           clear n0_ n1_
           (try clear hb)
           (try clear hb2)
           (try clear hk)
           (try clear hi)
           refine hK.out _ _ ⟨(blk_cell BK200.out 0).trans rfl, (blk_cell BK200.out 1).trans rfl, (blk_cell BK200.out 2).trans rfl⟩ (fun hHeld => ?_)
           clear hK K
           refine norm_ (a' := ?_) ?_ ?_
           rotate_left
           ·show Act.put _ (some 43) _ = _
            simp only [Act.put, List.setIfInBounds_toArray, List.set_cons_zero, List.set_cons_succ, i64_w, i32_w]
            rfl
           refine pure_ (i := 9) (N := some 44) (v := ?_) (a' := ?_) zb5_13 rfl rfl (any_of HT_.out (by kernel_rfl)) (fun _ _ _ h => h) (Or.inl ⟨by rfl, ?_⟩) ?_ ?_
           rotate_left
           ·intro w'
            go_simp
            with_reducible rfl
           rotate_left
           ·simp only [Act.put, List.setIfInBounds_toArray, List.set_cons_zero, List.set_cons_succ, i64_w, i32_w]
            rfl
           refine one_ (i := 13) (N := some 48) zb5_14 rfl rfl (one_of HT_.out (by kernel_rfl)) (by decide) (fun K hK => ?_)
           refine goes_ Try.func5 (by kernel_rfl) rfl #[.int .u64 (IntKind.u64.wrap (t199))] (by rfl) rfl rfl (by (try simp only [List.map_toArray, List.map_cons, List.map_nil]); first | done | rfl | (simp only [List.length_drop, List.length_take]; rfl)) ?_
           with_reducible refine (lodestoneref04_Num.calls kj5 (IntKind.u64.wrap (t199)) t203 _ A15.out).mono ?_
           rintro e w25 ⟨rfl, hb⟩
           refine ⟨_, rfl, ?_⟩
           have n0_ := Aside0.mk (blk_below (g := gb200) (o := .cells #[.int .i64 t197, .int .i64 t198, .int .i64 t199] 26 (0, 0)) (by (with_reducible repeat (first | refine blk_drewN ?_ _ | refine blk_drew ?_ | refine blk_alloc ?_ _)); exact BK200.out) hb)
           have n1_ := Aside0.mk (below_step (by repeat (first | (with_reducible first | exact HB.out | apply below_alloc | apply pw_below_drewN | apply below_drew1 | refine below_set ?_ GE200.out) | exact HB.out)) hb)
           clear BK200
           clear HB
           have BK200 := n0_
           have HB := n1_
           clear n0_ n1_
           (try clear hb)
           (try clear hb2)
           (try clear hk)
           (try clear hi)
           refine hK.out _ _ ⟨(blk_cell BK200.out 0).trans rfl, (blk_cell BK200.out 1).trans rfl, (blk_cell BK200.out 2).trans rfl⟩ (fun hHeld => ?_)
           clear hK K
           refine norm_ (a' := ?_) ?_ ?_
           rotate_left
           ·show Act.put _ (some 48) _ = _
            simp only [Act.put, List.setIfInBounds_toArray, List.set_cons_zero, List.set_cons_succ, i64_w, i32_w]
            rfl
           refine pure_ (i := 14) (N := some 49) (v := ?_) (a' := ?_) zb5_15 rfl rfl (any_of HT_.out (by kernel_rfl)) (fun _ _ _ h => h) (Or.inl ⟨by rfl, ?_⟩) ?_ ?_
           rotate_left
           ·intro w'
            go_simp
            with_reducible rfl
           rotate_left
           ·simp only [Act.put, List.setIfInBounds_toArray, List.set_cons_zero, List.set_cons_succ, i64_w, i32_w]
            rfl
           refine pure_ (i := 15) (N := some 50) (v := ?_) (a' := ?_) zb5_16 rfl rfl (any_of HT_.out (by kernel_rfl)) (fun _ _ _ h => h) (Or.inl ⟨by rfl, ?_⟩) ?_ ?_
           rotate_left
           ·intro w'
            go_simp
            with_reducible rfl
           rotate_left
           ·simp only [Act.put, List.setIfInBounds_toArray, List.set_cons_zero, List.set_cons_succ, i64_w, i32_w]
            rfl
           refine pure_ (i := 16) (N := some 5) (v := ?_) (a' := ?_) zb5_17 rfl rfl (any_of HT_.out (by kernel_rfl)) (fun _ _ _ h => h) (Or.inl ⟨by rfl, ?_⟩) ?_ ?_
           rotate_left
           ·intro w'
            go_simp
            with_reducible rfl
           rotate_left
           ·simp only [Act.put, List.setIfInBounds_toArray, List.set_cons_zero, List.set_cons_succ, i64_w, i32_w]
            rfl
           refine done_ (done_of HT_.out (by kernel_rfl)) ?_
           try go_wp2
           go_roundg kj5
           case measure => have := HK1.out; have := HJ5.out; omega
           case rel => exact ⟨(x5_1 ++ ((t201 ++ t202) ++ t203)), (wrap64 (x6_1 + 1)), (by first | rfl | (simp; done) | (simp [*]; done)), (by first | rfl | (simp; done) | (simp [*]; done)), H', ⟨by have := HK1.out; have := HJ5.out; omega⟩, ⟨by repeat (first | (with_reducible first | exact HB.out | apply below_alloc | apply pw_below_drewN | apply below_drew1 | refine below_set ?_ GE200.out) | exact HB.out)⟩⟩
          ·rw [if_neg c17] at H
           exact absurd H (by simp)
         ·rw [if_neg c16] at H
          exact absurd H (by simp)
        ·rw [if_neg c14] at H
         exact absurd H (by simp)
       ·rw [if_neg c10] at H
        exact absurd H (by simp)
      ·rw [if_neg c9] at H
       exact absurd H (by simp)
     ·replace c8 := Bool.eq_false_iff.mpr c8
      subst c8
      have H1 : (if 0 ≤ (mn (a1.size : Int) 3) then (if (mn (a1.size : Int) 3) ≤ (a1.size : Int) then (if x5_1.size + (a1.extract 0 ((mn (a1.size : Int) 3) : Int).toNat).size ≤ 9223372036854775807 then ((schema_Get.f kj5 (x5_1 ++ (a1.extract 0 ((mn (a1.size : Int) 3) : Int).toNat))).bind fun bt204 => (lodestonelaw25_SchemaGets.l1 kj5 l0 a1 (x5_1 ++ (a1.extract 0 ((mn (a1.size : Int) 3) : Int).toNat)) bt204.1 bt204.2 true true 0)) else (none)) else (none)) else (none)) = some r := by rw [if_neg (show ¬ (false = true) by decide)] at H; exact H
      clear H
      have H := H1
      clear H1
      obtain ⟨ji26, hji26⟩ : ∃ j_ : Int, (mn (a1.size : Int) 3) = j_ := ⟨_, rfl⟩
      replace H : (if 0 ≤ (ji26) then (if (ji26) ≤ (a1.size : Int) then (if x5_1.size + (a1.extract 0 ((ji26) : Int).toNat).size ≤ 9223372036854775807 then ((schema_Get.f kj5 (x5_1 ++ (a1.extract 0 ((ji26) : Int).toNat))).bind fun bt204 => (lodestonelaw25_SchemaGets.l1 kj5 l0 a1 (x5_1 ++ (a1.extract 0 ((ji26) : Int).toNat)) bt204.1 bt204.2 true true 0)) else (none)) else (none)) else (none)) = some r := by first | (rw [hji26] at H; exact H) | (simp only [hji26] at H ⊢; exact H)
      have hji26_ : (if 3 < (a1.size : Int) then 3 else (a1.size : Int)) = ji26 := hji26
      by_cases c27 : 0 ≤ (ji26)
      ·rw [if_pos c27] at H
       have c27b0 := eq_true c27
       have c27b1 : decide (0 ≤ (ji26)) = true := decide_eq_true c27
       clear c27
       by_cases c28 : (ji26) ≤ (a1.size : Int)
       ·rw [if_pos c28] at H
        have c28b0 := eq_true c28
        have c28b1 : decide ((ji26) ≤ (a1.size : Int)) = true := decide_eq_true c28
        clear c28
        by_cases c29 : x5_1.size + (a1.extract 0 ((ji26) : Int).toNat).size ≤ 9223372036854775807
        ·rw [if_pos c29] at H
         have c29b0 := eq_true c29
         have c29e := c29
         simp only [ByteArray.size_append, ByteArray.size_extract, Nat.min_self] at c29e
         have c29b8 := eq_false (Nat.not_lt.2 c29e)
         have c29b1 : decide (x5_1.size + (a1.extract 0 ((ji26) : Int).toNat).size ≤ 9223372036854775807) = true := decide_eq_true c29
         try have c29b2 : (9223372036854775807 < x5_1.size + (a1.extract 0 ((ji26) : Int).toNat).size) = False := eq_false (Nat.not_lt.2 c29)
         replace H := Option.bind_eq_some_iff.mp H
         obtain ⟨⟨t204, t205⟩, A300, H⟩ := H
         replace H : (lodestonelaw25_SchemaGets.l1 kj5 l0 a1 (x5_1 ++ (a1.extract 0 ((ji26) : Int).toNat)) t204 t205 true true 0) = some r := H
         have A30 := Aside0.mk A300
         clear A300
         have H' := Aside0.mk H
         clear H
         go_wp2_with (first | ((with_reducible refine gate_callee (f := 7) rfl ?_); refine goesL_ (some 60) rfl rfl Try.func7 (by kernel_rfl) rfl #[.string (x5_1 ++ (a1.extract 0 ((ji26) : Int).toNat))] rfl (by (try simp only [List.map_toArray, List.map_cons, List.map_nil]); first | done | (simp only [hji26]; rfl) | rfl | (simp only [List.length_drop, List.length_take]; rfl)) ?_; (with_reducible refine (schema_Get.calls kj5 (x5_1 ++ (a1.extract 0 ((ji26) : Int).toNat)) t204 t205 _ A30.out).mono ?_); rintro e w31 ⟨v206, rfl, ho0, hb⟩; refine ⟨_, rfl, ?_⟩; have n0_ := Aside0.mk (Kd.R_lower ho0 (below_size (by repeat (first | (with_reducible first | exact HB.out | apply below_alloc | apply pw_below_drewN | apply below_drew1) | exact HB.out)))); have n1_ := Aside0.mk (below_step (by repeat (first | (with_reducible first | exact HB.out | apply below_alloc | apply pw_below_drewN | apply below_drew1) | exact HB.out)) hb); clear HB; have HO207 := n0_; have HB := n1_; clear n0_ n1_; (try clear hb); (try clear hb2); (try clear hk); (try clear hi); (try clear ho0)))
         go_loopg [10, 11, 12] kj5 (fun kq v10 v11 v12 w' => ∃ (x10_3 : Bool) (x11_3 : Bool) (x12_3 : Int), v10 = .bool x10_3 ∧ v11 = .bool x11_3 ∧ v12 = .int .i64 x12_3 ∧ Aside0 (lodestonelaw25_SchemaGets.l1 kq l0 a1 (x5_1 ++ (a1.extract 0 ((ji26) : Int).toNat)) t204 t205 x10_3 x11_3 x12_3 = some r) ∧ Aside0 (kq ≤ kj5) ∧ Aside0 (Kd.R k26 26 w' w.heap.size (fun _ => True) v206 t204) ∧ Aside0 (Below w.heap.size w w'))
         case atStart => exact ⟨(true), (true), (0), (by first | rfl | (simp; done) | (simp [*]; done)), (by first | rfl | (simp; done) | (simp [*]; done)), (by first | rfl | (simp; done) | (simp [*]; done)), H', ⟨Nat.le_refl _⟩, ⟨by (with_reducible repeat (first | apply Kd.R_alloc | apply Kd.R_drewN | apply Kd.R_drew)); exact HO207.out⟩, ⟨by repeat (first | (with_reducible first | exact HB.out | apply below_alloc | apply pw_below_drewN | apply below_drew1) | exact HB.out)⟩⟩
         case round =>
          clear H'
          try clear c1
          try clear p1
          try clear q1
          try clear hx1
          try clear c2
          try clear p2
          try clear c3
          try clear c5
          try clear c6
          try clear p6
          try clear c7
          try clear c7b0
          try clear c8
          try clear c9
          try clear c9b0
          try clear c10
          try clear c10b0
          try clear c14
          try clear c14b0
          try clear c14b1
          try clear c14b2
          try clear c16
          try clear c16b0
          try clear c16b1
          try clear c16b2
          try clear c17
          try clear c17b0
          try clear c17b1
          try clear c17b2
          try clear p19
          try clear q19
          try clear hx19
          try clear c27
          try clear c27b0
          try clear c27b1
          try clear c28
          try clear c28b0
          try clear c28b1
          try clear c29
          try clear c29b0
          try clear c29b1
          try clear c29b2
          try clear hcz20_0
          try clear hcz20_1
          try clear hcz20_2
          try clear hfz20_0
          try clear hfz20_1
          try clear hfz20_2
          try clear hx196_0
          try clear hx196_1
          try clear hx196_2
          try clear p196
          try clear p2
          try clear q196
          obtain ⟨x10_3, x11_3, x12_3, rfl, rfl, rfl, HA, HK3, HO_8, HB⟩ := hrel
          cases gk with
          | zero => exact absurd HA.out (by simp [lodestonelaw25_SchemaGets.l1])
          | succ k3 =>
           have H := HA.out
           clear HA
           simp only [lodestonelaw25_SchemaGets.l1] at H
           have HC32 := Aside0.mk H
           clear H
           go_upto_region 11 with (fail)
           go_cut [70] (fun v70 wc => ∃ (kq : Nat) (x70_31 : Bool), v70 = .bool x70_31 ∧ Aside0 (lodestonelaw25_SchemaGets.j3 kq l0 a1 (x5_1 ++ (a1.extract 0 ((ji26) : Int).toNat)) t204 t205 x10_3 x11_3 x12_3 x70_31 = some r) ∧ Aside0 (kq ≤ k3) ∧ Aside0 (Kd.R k26 26 wc w.heap.size (fun _ => True) v206 t204) ∧ Aside0 (Below w.heap.size w wc))
           case first =>
            have H := HC32.out
            clear HC32
            by_cases c33 : x12_3 < (l0.length : Int)
            ·rw [if_pos c33] at H
             have c33b0 : decide (x12_3 < (l0.length : Int)) = true := decide_eq_true c33
             clear c33
             (first | rw [c33b0] | (simp only [i64_w, i32_w]; rw [c33b0]) | skip)
             have H' := Aside0.mk H
             clear H
             go_wp2
             go_meet
             case rel => exact ⟨_, (decide (x12_3 < 9)), (by first | rfl | (simp; done) | (simp [*]; done)), H', ⟨by have := HK1.out; have := HJ5.out; have := HK3.out; first | omega | exact Nat.le_refl _⟩, ⟨by (with_reducible repeat (first | apply Kd.R_alloc | apply Kd.R_drewN | apply Kd.R_drew)); exact HO_8.out⟩, ⟨by repeat (first | (with_reducible first | exact HB.out | apply below_alloc | apply pw_below_drewN | apply below_drew1) | exact HB.out)⟩⟩
            ·rw [if_neg c33] at H
             have c33b0 : decide (x12_3 < (l0.length : Int)) = false := decide_eq_false c33
             clear c33
             (first | rw [c33b0] | (simp only [i64_w, i32_w]; rw [c33b0]) | skip)
             have H' := Aside0.mk H
             clear H
             go_wp2
             go_meet
             case rel => exact ⟨_, (false), (by first | rfl | (simp; done) | (simp [*]; done)), H', ⟨by have := HK1.out; have := HJ5.out; have := HK3.out; first | omega | exact Nat.le_refl _⟩, ⟨by (with_reducible repeat (first | apply Kd.R_alloc | apply Kd.R_drewN | apply Kd.R_drew)); exact HO_8.out⟩, ⟨by repeat (first | (with_reducible first | exact HB.out | apply below_alloc | apply pw_below_drewN | apply below_drew1) | exact HB.out)⟩⟩
           case rest =>
            clear HC32
            try clear c1
            try clear p1
            try clear q1
            try clear hx1
            try clear c2
            try clear p2
            try clear c3
            try clear c5
            try clear c6
            try clear p6
            try clear c7
            try clear c7b0
            try clear c8
            try clear c9
            try clear c9b0
            try clear c10
            try clear c10b0
            try clear c14
            try clear c14b0
            try clear c14b1
            try clear c14b2
            try clear c16
            try clear c16b0
            try clear c16b1
            try clear c16b2
            try clear c17
            try clear c17b0
            try clear c17b1
            try clear c17b2
            try clear p19
            try clear q19
            try clear hx19
            try clear c27
            try clear c27b0
            try clear c27b1
            try clear c28
            try clear c28b0
            try clear c28b1
            try clear c29
            try clear c29b0
            try clear c29b1
            try clear c29b2
            try clear c33
            try clear c33b0
            try clear hcz20_0
            try clear hcz20_1
            try clear hcz20_2
            try clear hfz20_0
            try clear hfz20_1
            try clear hfz20_2
            try clear hx196_0
            try clear hx196_1
            try clear hx196_2
            try clear p1
            try clear p19
            try clear p196
            try clear p2
            try clear p6
            try clear q1
            try clear q19
            try clear q196
            obtain ⟨kq, x70_31, rfl, HA, HJ31, HO_8, HB⟩ := hcut
            cases kq with
            | zero => exact absurd HA.out (by simp [lodestonelaw25_SchemaGets.j3])
            | succ kj31 =>
             have H := HA.out
             clear HA
             simp only [lodestonelaw25_SchemaGets.j3] at H
             by_cases c34 : x70_31 = true
             ·subst c34
              have H1 : (if x11_3 = true then (if 0 ≤ x12_3 then (if x12_3 < (l0.length : Int) then ((lodestonelaw25_few.f ((rd_T26 l0 x12_3).f0) ((rd_T26 l0 x12_3).f1) ((rd_T26 l0 x12_3).f2)).bind fun bt209 => ((lodestonelaw25_may.f bt209.1 bt209.2.1 bt209.2.2).bind fun t212 => (lodestonelaw25_SchemaGets.j4 kj31 l0 a1 (x5_1 ++ (a1.extract 0 ((ji26) : Int).toNat)) t204 t205 x10_3 t212 x12_3))) else (none)) else (none)) else (lodestonelaw25_SchemaGets.j4 kj31 l0 a1 (x5_1 ++ (a1.extract 0 ((ji26) : Int).toNat)) t204 t205 x10_3 false x12_3)) = some r := by rw [if_pos rfl] at H; exact H
              clear H
              have H := H1
              clear H1
              have HC35 := Aside0.mk H
              clear H
              go_upto_region 13 with (fail)
              go_cut [11] (fun v11 wc => ∃ (kq : Nat) (x11_34 : Bool), v11 = .bool x11_34 ∧ Aside0 (lodestonelaw25_SchemaGets.j4 kq l0 a1 (x5_1 ++ (a1.extract 0 ((ji26) : Int).toNat)) t204 t205 x10_3 x11_34 x12_3 = some r) ∧ Aside0 (kq ≤ kj31) ∧ Aside0 (Kd.R k26 26 wc w.heap.size (fun _ => True) v206 t204) ∧ Aside0 (Below w.heap.size w wc))
              case first =>
               have H := HC35.out
               clear HC35
               by_cases c36 : x11_3 = true
               ·subst c36
                have H1 : (if 0 ≤ x12_3 then (if x12_3 < (l0.length : Int) then ((lodestonelaw25_few.f ((rd_T26 l0 x12_3).f0) ((rd_T26 l0 x12_3).f1) ((rd_T26 l0 x12_3).f2)).bind fun bt209 => ((lodestonelaw25_may.f bt209.1 bt209.2.1 bt209.2.2).bind fun t212 => (lodestonelaw25_SchemaGets.j4 kj31 l0 a1 (x5_1 ++ (a1.extract 0 ((ji26) : Int).toNat)) t204 t205 x10_3 t212 x12_3))) else (none)) else (none)) = some r := by rw [if_pos rfl] at H; exact H
                clear H
                have H := H1
                clear H1
                by_cases c37 : 0 ≤ x12_3
                ·rw [if_pos c37] at H
                 have c37b0 : decide (0 ≤ x12_3) = true := decide_eq_true c37
                 clear c37
                 (first | rw [c37b0] | (simp only [i64_w, i32_w]; rw [c37b0]) | skip)
                 by_cases c38 : x12_3 < (l0.length : Int)
                 ·rw [if_pos c38] at H
                  have c38b0 : decide (x12_3 < (l0.length : Int)) = true := decide_eq_true c38
                  clear c38
                  replace H := Option.bind_eq_some_iff.mp H
                  obtain ⟨⟨t209, t210, t211⟩, A390, H⟩ := H
                  replace H : ((lodestonelaw25_may.f t209 t210 t211).bind fun t212 => (lodestonelaw25_SchemaGets.j4 kj31 l0 a1 (x5_1 ++ (a1.extract 0 ((ji26) : Int).toNat)) t204 t205 x10_3 t212 x12_3)) = some r := H
                  have A39 := Aside0.mk A390
                  clear A390
                  replace H := Option.bind_eq_some_iff.mp H
                  obtain ⟨t212, A400, H⟩ := H
                  replace H : (lodestonelaw25_SchemaGets.j4 kj31 l0 a1 (x5_1 ++ (a1.extract 0 ((ji26) : Int).toNat)) t204 t205 x10_3 t212 x12_3) = some r := H
                  have A40 := Aside0.mk A400
                  clear A400
                  have H' := Aside0.mk H
                  clear H
                  have p208 : 0 ≤ (x12_3 : Int) := of_decide_eq_true (by first | (with_reducible assumption) | assumption)
                  have q208 : x12_3 < (l0.length : Int) := of_decide_eq_true (by first | (with_reducible assumption) | assumption)
                  obtain ⟨ad208, e208, hx208_0, hx208_1, hx208_2⟩ := at_T26 HR0.out x12_3 p208 q208
                  cases e208
                  replace hx208_0 := (HB.out.cell (World.block_lt_of_cell? w _ hx208_0)).trans hx208_0
                  replace hx208_1 := (HB.out.cell (World.block_lt_of_cell? w _ hx208_1)).trans hx208_1
                  replace hx208_2 := (HB.out.cell (World.block_lt_of_cell? w _ hx208_2)).trans hx208_2
                  replace p208 := eq_true p208
                  replace q208 := eq_true q208
                  go_wp2_with (first | (go_at_call 6; (with_reducible refine (lodestonelaw25_few.calls ((rd_T26 l0 x12_3).f0) ((rd_T26 l0 x12_3).f1) ((rd_T26 l0 x12_3).f2) t209 t210 t211 _ A39.out).mono ?_); rintro e w41 ⟨rfl, hb⟩; have n0_ := Aside0.mk (Kd.R_below (by (with_reducible repeat (first | apply Kd.R_alloc | apply Kd.R_drewN | apply Kd.R_drew)); exact HO_8.out) hb); have n1_ := Aside0.mk (below_step (by repeat (first | (with_reducible first | exact HB.out | apply below_alloc | apply pw_below_drewN | apply below_drew1) | exact HB.out)) hb); clear HO_8; clear HB; have HO_8 := n0_; have HB := n1_; clear n0_ n1_; (try clear hb); (try clear hb2); (try clear hk); (try clear hi)) | (go_at_call 8; (with_reducible refine (lodestonelaw25_may.calls t209 t210 t211 t212 _ A40.out).mono ?_); rintro e w42 ⟨rfl, hb⟩; have n0_ := Aside0.mk (Kd.R_below (by (with_reducible repeat (first | apply Kd.R_alloc | apply Kd.R_drewN | apply Kd.R_drew)); exact HO_8.out) hb); have n1_ := Aside0.mk (below_step (by repeat (first | (with_reducible first | exact HB.out | apply below_alloc | apply pw_below_drewN | apply below_drew1) | exact HB.out)) hb); clear HO_8; clear HB; have HO_8 := n0_; have HB := n1_; clear n0_ n1_; (try clear hb); (try clear hb2); (try clear hk); (try clear hi)))
                  go_meet
                  case rel => exact ⟨_, (t212), (by first | rfl | (simp; done) | (simp [*]; done)), H', ⟨by have := HK1.out; have := HJ5.out; have := HK3.out; have := HJ31.out; first | omega | exact Nat.le_refl _⟩, ⟨by (with_reducible repeat (first | apply Kd.R_alloc | apply Kd.R_drewN | apply Kd.R_drew)); exact HO_8.out⟩, ⟨by repeat (first | (with_reducible first | exact HB.out | apply below_alloc | apply pw_below_drewN | apply below_drew1) | exact HB.out)⟩⟩
                 ·rw [if_neg c38] at H
                  exact absurd H (by simp)
                ·rw [if_neg c37] at H
                 exact absurd H (by simp)
               ·replace c36 := Bool.eq_false_iff.mpr c36
                subst c36
                have H1 : (lodestonelaw25_SchemaGets.j4 kj31 l0 a1 (x5_1 ++ (a1.extract 0 ((ji26) : Int).toNat)) t204 t205 x10_3 false x12_3) = some r := by rw [if_neg (show ¬ (false = true) by decide)] at H; exact H
                clear H
                have H := H1
                clear H1
                have H' := Aside0.mk H
                clear H
                go_wp2
                go_meet
                case rel => exact ⟨_, (false), (by first | rfl | (simp; done) | (simp [*]; done)), H', ⟨by have := HK1.out; have := HJ5.out; have := HK3.out; have := HJ31.out; first | omega | exact Nat.le_refl _⟩, ⟨by (with_reducible repeat (first | apply Kd.R_alloc | apply Kd.R_drewN | apply Kd.R_drew)); exact HO_8.out⟩, ⟨by repeat (first | (with_reducible first | exact HB.out | apply below_alloc | apply pw_below_drewN | apply below_drew1) | exact HB.out)⟩⟩
              case rest =>
               clear HC35
               try clear c1
               try clear p1
               try clear q1
               try clear hx1
               try clear c2
               try clear p2
               try clear q2
               try clear hx2
               try clear c3
               try clear c5
               try clear c6
               try clear p6
               try clear c7
               try clear c7b0
               try clear c8
               try clear c9
               try clear c9b0
               try clear c10
               try clear c10b0
               try clear c14
               try clear c14b0
               try clear c14b1
               try clear c14b2
               try clear c16
               try clear c16b0
               try clear c16b1
               try clear c16b2
               try clear c17
               try clear c17b0
               try clear c17b1
               try clear c17b2
               try clear p19
               try clear q19
               try clear hx19
               try clear p20
               try clear q20
               try clear hx20
               try clear c27
               try clear c27b0
               try clear c27b1
               try clear c28
               try clear c28b0
               try clear c28b1
               try clear c29
               try clear c29b0
               try clear c29b1
               try clear c29b2
               try clear c33
               try clear c33b0
               try clear c34
               try clear c36
               try clear c37
               try clear c37b0
               try clear c38
               try clear c38b0
               try clear hcz20_0
               try clear hcz20_1
               try clear hcz20_2
               try clear hfz20_0
               try clear hfz20_1
               try clear hfz20_2
               try clear hx196_0
               try clear hx196_1
               try clear hx196_2
               try clear hx208_0
               try clear hx208_1
               try clear hx208_2
               try clear p1
               try clear p19
               try clear p196
               try clear p2
               try clear p208
               try clear p6
               try clear q1
               try clear q19
               try clear q196
               try clear q208
               obtain ⟨kq, x11_34, rfl, HA, HJ34, HO_8, HB⟩ := hcut
               cases kq with
               | zero => exact absurd HA.out (by simp [lodestonelaw25_SchemaGets.j4])
               | succ kj34 =>
                have H := HA.out
                clear HA
                simp only [lodestonelaw25_SchemaGets.j4] at H
                by_cases c43 : x12_3 > 0
                ·rw [if_pos c43] at H
                 have c43b0 : decide (0 < x12_3) = true := decide_eq_true c43
                 clear c43
                 obtain ⟨ji44, hji44⟩ : ∃ j_ : Int, (wrap64 (x12_3 - 1)) = j_ := ⟨_, rfl⟩
                 replace H : (if 0 ≤ (ji44) then (if (ji44) < (l0.length : Int) then ((lodestonelaw25_few.f ((rd_T26 l0 (ji44)).f0) ((rd_T26 l0 (ji44)).f1) ((rd_T26 l0 (ji44)).f2)).bind fun bt214 => (if 0 ≤ x12_3 then (if x12_3 < (l0.length : Int) then ((lodestonelaw25_few.f ((rd_T26 l0 x12_3).f0) ((rd_T26 l0 x12_3).f1) ((rd_T26 l0 x12_3).f2)).bind fun bt218 => (if x10_3 = true then (if bt214.1 < bt218.1 then (lodestonelaw25_SchemaGets.l1 kj34 l0 a1 (x5_1 ++ (a1.extract 0 ((ji26) : Int).toNat)) t204 t205 true x11_34 (wrap64 (x12_3 + 1))) else (if bt214.1 = bt218.1 then (lodestonelaw25_SchemaGets.l1 kj34 l0 a1 (x5_1 ++ (a1.extract 0 ((ji26) : Int).toNat)) t204 t205 (decide (bt214.2.1 < bt218.2.1)) x11_34 (wrap64 (x12_3 + 1))) else (lodestonelaw25_SchemaGets.l1 kj34 l0 a1 (x5_1 ++ (a1.extract 0 ((ji26) : Int).toNat)) t204 t205 false x11_34 (wrap64 (x12_3 + 1))))) else (lodestonelaw25_SchemaGets.l1 kj34 l0 a1 (x5_1 ++ (a1.extract 0 ((ji26) : Int).toNat)) t204 t205 false x11_34 (wrap64 (x12_3 + 1))))) else (none)) else (none))) else (none)) else (none)) = some r := by first | (rw [hji44] at H; exact H) | (simp only [hji44] at H ⊢; exact H)
                 have hji44w : (IntKind.i64.wrap (x12_3 - 1)) = ji44 := (i64_w _).trans hji44
                 by_cases c45 : 0 ≤ (ji44)
                 ·rw [if_pos c45] at H
                  have c45b0 : decide (0 ≤ (ji44)) = true := decide_eq_true c45
                  clear c45
                  by_cases c46 : (ji44) < (l0.length : Int)
                  ·rw [if_pos c46] at H
                   have c46b0 : decide ((ji44) < (l0.length : Int)) = true := decide_eq_true c46
                   clear c46
                   replace H := Option.bind_eq_some_iff.mp H
                   obtain ⟨⟨t214, t215, t216⟩, A470, H⟩ := H
                   replace H : (if 0 ≤ x12_3 then (if x12_3 < (l0.length : Int) then ((lodestonelaw25_few.f ((rd_T26 l0 x12_3).f0) ((rd_T26 l0 x12_3).f1) ((rd_T26 l0 x12_3).f2)).bind fun bt218 => (if x10_3 = true then (if t214 < bt218.1 then (lodestonelaw25_SchemaGets.l1 kj34 l0 a1 (x5_1 ++ (a1.extract 0 ((ji26) : Int).toNat)) t204 t205 true x11_34 (wrap64 (x12_3 + 1))) else (if t214 = bt218.1 then (lodestonelaw25_SchemaGets.l1 kj34 l0 a1 (x5_1 ++ (a1.extract 0 ((ji26) : Int).toNat)) t204 t205 (decide (t215 < bt218.2.1)) x11_34 (wrap64 (x12_3 + 1))) else (lodestonelaw25_SchemaGets.l1 kj34 l0 a1 (x5_1 ++ (a1.extract 0 ((ji26) : Int).toNat)) t204 t205 false x11_34 (wrap64 (x12_3 + 1))))) else (lodestonelaw25_SchemaGets.l1 kj34 l0 a1 (x5_1 ++ (a1.extract 0 ((ji26) : Int).toNat)) t204 t205 false x11_34 (wrap64 (x12_3 + 1))))) else (none)) else (none)) = some r := H
                   have A47 := Aside0.mk A470
                   clear A470
                   by_cases c48 : 0 ≤ x12_3
                   ·rw [if_pos c48] at H
                    have c48b0 : decide (0 ≤ x12_3) = true := decide_eq_true c48
                    clear c48
                    by_cases c49 : x12_3 < (l0.length : Int)
                    ·rw [if_pos c49] at H
                     have c49b0 : decide (x12_3 < (l0.length : Int)) = true := decide_eq_true c49
                     clear c49
                     replace H := Option.bind_eq_some_iff.mp H
                     obtain ⟨⟨t218, t219, t220⟩, A500, H⟩ := H
                     replace H : (if x10_3 = true then (if t214 < t218 then (lodestonelaw25_SchemaGets.l1 kj34 l0 a1 (x5_1 ++ (a1.extract 0 ((ji26) : Int).toNat)) t204 t205 true x11_34 (wrap64 (x12_3 + 1))) else (if t214 = t218 then (lodestonelaw25_SchemaGets.l1 kj34 l0 a1 (x5_1 ++ (a1.extract 0 ((ji26) : Int).toNat)) t204 t205 (decide (t215 < t219)) x11_34 (wrap64 (x12_3 + 1))) else (lodestonelaw25_SchemaGets.l1 kj34 l0 a1 (x5_1 ++ (a1.extract 0 ((ji26) : Int).toNat)) t204 t205 false x11_34 (wrap64 (x12_3 + 1))))) else (lodestonelaw25_SchemaGets.l1 kj34 l0 a1 (x5_1 ++ (a1.extract 0 ((ji26) : Int).toNat)) t204 t205 false x11_34 (wrap64 (x12_3 + 1)))) = some r := H
                     have A50 := Aside0.mk A500
                     clear A500
                     have H' := Aside0.mk H
                     clear H
                     try go_wp2
                     have n0_ := Aside0.mk (Kd.R_drew HO_8.out)
                     have n1_ := Aside0.mk (below_drew1 HB.out)
                     clear HO_8
                     clear HB
                     have HO_8 := n0_
                     have HB := n1_
                     clear n0_ n1_
                     have p213 : 0 ≤ ((ji44) : Int) := of_decide_eq_true (by first | (with_reducible assumption) | assumption)
                     have q213 : (ji44) < (l0.length : Int) := of_decide_eq_true (by first | (with_reducible assumption) | assumption)
                     obtain ⟨ad213, e213, hx213_0, hx213_1, hx213_2⟩ := at_T26 HR0.out (ji44) p213 q213
                     have hw213_2 := hx213_2
                     have hw213_1 := hx213_1
                     have hw213_0 := hx213_0
                     cases e213
                     replace hx213_0 := (HB.out.cell (World.block_lt_of_cell? w _ hx213_0)).trans hx213_0
                     replace hx213_1 := (HB.out.cell (World.block_lt_of_cell? w _ hx213_1)).trans hx213_1
                     replace hx213_2 := (HB.out.cell (World.block_lt_of_cell? w _ hx213_2)).trans hx213_2
                     replace p213 := eq_true p213
                     replace q213 := eq_true q213
                     have p217 : 0 ≤ (x12_3 : Int) := of_decide_eq_true (by first | (with_reducible assumption) | assumption)
                     have q217 : x12_3 < (l0.length : Int) := of_decide_eq_true (by first | (with_reducible assumption) | assumption)
                     obtain ⟨ad217, e217, hx217_0, hx217_1, hx217_2⟩ := at_T26 HR0.out x12_3 p217 q217
                     have hw217_2 := hx217_2
                     have hw217_1 := hx217_1
                     have hw217_0 := hx217_0
                     obtain rfl : ad213 = ad217 := (by injection e217)
                     replace hx217_0 := (HB.out.cell (World.block_lt_of_cell? w _ hx217_0)).trans hx217_0
                     replace hx217_1 := (HB.out.cell (World.block_lt_of_cell? w _ hx217_1)).trans hx217_1
                     replace hx217_2 := (HB.out.cell (World.block_lt_of_cell? w _ hx217_2)).trans hx217_2
                     replace p217 := eq_true p217
                     replace q217 := eq_true q217
                     refine start_ (n := 15) (S := fun w' => w'.cell? (ad213.add (((ji44)).toNat * 3)) = some (.int .i64 ((rd_T26 l0 (ji44)).f0)) ∧ w'.cell? ⟨(ad213.add (((ji44)).toNat * 3)).block, (ad213.add (((ji44)).toNat * 3)).off + 1, none⟩ = some (.int .i64 ((rd_T26 l0 (ji44)).f1)) ∧ w'.cell? ⟨(ad213.add (((ji44)).toNat * 3)).block, (ad213.add (((ji44)).toNat * 3)).off + 2, none⟩ = some (.int .i64 ((rd_T26 l0 (ji44)).f2)) ∧ w'.cell? (ad213.add ((x12_3).toNat * 3)) = some (.int .i64 ((rd_T26 l0 x12_3).f0)) ∧ w'.cell? ⟨(ad213.add ((x12_3).toNat * 3)).block, (ad213.add ((x12_3).toNat * 3)).off + 1, none⟩ = some (.int .i64 ((rd_T26 l0 x12_3).f1)) ∧ w'.cell? ⟨(ad213.add ((x12_3).toNat * 3)).block, (ad213.add ((x12_3).toNat * 3)).off + 2, none⟩ = some (.int .i64 ((rd_T26 l0 x12_3).f2))) (ds := []) zb5_18 (by kernel_rfl) rfl rfl ⟨((HB.out.cell (World.block_lt_of_cell? w _ hw213_0)).trans hw213_0), ((HB.out.cell (World.block_lt_of_cell? w _ hw213_1)).trans hw213_1), ((HB.out.cell (World.block_lt_of_cell? w _ hw213_2)).trans hw213_2), ((HB.out.cell (World.block_lt_of_cell? w _ hw217_0)).trans hw217_0), ((HB.out.cell (World.block_lt_of_cell? w _ hw217_1)).trans hw217_1), ((HB.out.cell (World.block_lt_of_cell? w _ hw217_2)).trans hw217_2)⟩ (fun hHeld => ?_); refine with_tabW lodestonelaw25_SchemaGets.tab15 lodestonelaw25_SchemaGets.bits15 (fun HT_ HW_ => ?_)
                     generalize wc.drew = w53 at HO_8 HB hx213_0 hx213_1 hx213_2 hx217_0 hx217_1 hx217_2 hHeld ⊢
                     refine pure_ (i := 0) (N := some 84) (v := ?_) (a' := ?_) zb5_19 rfl rfl (any_of HT_.out (by kernel_rfl)) (fun _ _ _ h => h) (Or.inl ⟨by rfl, ?_⟩) ?_ ?_
                     rotate_left
                     ·intro w'
                      go_simp
                      with_reducible rfl
                     rotate_left
                     ·simp only [Act.put, List.setIfInBounds_toArray, List.set_cons_zero, List.set_cons_succ, i64_w, i32_w]
                      rfl
                     refine pure_ (i := 1) (N := some 85) (v := ?_) (a' := ?_) zb5_20 rfl rfl (any_of HT_.out (by kernel_rfl)) (fun _ _ _ h => h) (Or.inl ⟨by rfl, ?_⟩) ?_ ?_
                     rotate_left
                     ·intro w'
                      go_simp
                      with_reducible rfl
                     rotate_left
                     ·simp only [Act.put, List.setIfInBounds_toArray, List.set_cons_zero, List.set_cons_succ, i64_w, i32_w]
                      rfl
                     refine pure_ (i := 2) (N := some 86) (v := ?_) (a' := ?_) zb5_21 rfl rfl (any_of HT_.out (by kernel_rfl)) (fun _ _ _ h => h) (Or.inl ⟨by rfl, ?_⟩) ?_ ?_
                     rotate_left
                     ·intro w'
                      go_simp
                      with_reducible rfl
                     rotate_left
                     ·simp only [Act.put, List.setIfInBounds_toArray, List.set_cons_zero, List.set_cons_succ, i64_w, i32_w]
                      rfl
                     refine pure_ (i := 3) (N := some 87) (v := ?_) (a' := ?_) zb5_22 rfl rfl (any_of HT_.out (by kernel_rfl)) (fun _ _ _ h => h) (Or.inl ⟨by rfl, ?_⟩) ?_ ?_
                     rotate_left
                     ·intro w'
                      go_simp
                      with_reducible rfl
                     rotate_left
                     ·simp only [Act.put, List.setIfInBounds_toArray, List.set_cons_zero, List.set_cons_succ, i64_w, i32_w]
                      rfl
                     refine pure_ (i := 6) (N := some 90) (v := ?_) (a' := ?_) zb5_23 rfl rfl (any_of HT_.out (by kernel_rfl)) (fun _ _ _ h => h) (Or.inl ⟨by rfl, ?_⟩) ?_ ?_
                     rotate_left
                     ·intro w'
                      go_simp
                      with_reducible rfl
                     rotate_left
                     ·simp only [Act.put, List.setIfInBounds_toArray, List.set_cons_zero, List.set_cons_succ, i64_w, i32_w]
                      rfl
                     refine pure_ (i := 7) (N := some 91) (v := ?_) (a' := ?_) zb5_24 rfl rfl (any_of HT_.out (by kernel_rfl)) (fun _ _ _ h => h) (Or.inl ⟨by rfl, ?_⟩) ?_ ?_
                     rotate_left
                     ·intro w'
                      go_simp
                      with_reducible rfl
                     rotate_left
                     ·simp only [Act.put, List.setIfInBounds_toArray, List.set_cons_zero, List.set_cons_succ, i64_w, i32_w]
                      rfl
                     refine pure_ (i := 8) (N := some 92) (v := ?_) (a' := ?_) zb5_25 rfl rfl (any_of HT_.out (by kernel_rfl)) (fun _ _ _ h => h) (Or.inl ⟨by rfl, ?_⟩) ?_ ?_
                     rotate_left
                     ·intro w'
                      go_simp
                      with_reducible rfl
                     rotate_left
                     ·simp only [Act.put, List.setIfInBounds_toArray, List.set_cons_zero, List.set_cons_succ, i64_w, i32_w]
                      rfl
                     refine take_ (i := 4) (N := some 88) (v := ?_) (a' := ?_) zb5_26 rfl rfl (take_ofW HT_.out HW_.out (by kernel_rfl)) (fun _ _ _ h => h) (Or.inl ⟨by rfl, ?_⟩) hHeld ?_ ?_
                     rotate_left
                     ·rintro w' ⟨s0, s1, s2, s3, s4, s5⟩
                      go_simp
                      with_reducible rfl
                     rotate_left
                     ·simp only [Act.put, List.setIfInBounds_toArray, List.set_cons_zero, List.set_cons_succ, i64_w, i32_w]
                      rfl
                     refine take_ (i := 9) (N := some 93) (v := ?_) (a' := ?_) zb5_27 rfl rfl (take_ofW HT_.out HW_.out (by kernel_rfl)) (fun _ _ _ h => h) (Or.inl ⟨by rfl, ?_⟩) hHeld ?_ ?_
                     rotate_left
                     ·rintro w' ⟨s0, s1, s2, s3, s4, s5⟩
                      go_simp
                      with_reducible rfl
                     rotate_left
                     ·simp only [Act.put, List.setIfInBounds_toArray, List.set_cons_zero, List.set_cons_succ, i64_w, i32_w]
                      rfl
                     refine join_ (σ := Nat × Nat) 2 zb5_28 (fun s_ => [(89, .agg #[.int .i64 t214, .int .i64 t215, .int .i64 t216]), (94, .agg #[.int .i64 t218, .int .i64 t219, .int .i64 t220]), (13, .pointer (some ⟨s_.1, 0, none⟩)), (14, .pointer (some ⟨s_.2, 0, none⟩))]) (fun s_ w' => (w'.cell? (ad213.add (((ji44)).toNat * 3)) = some (.int .i64 ((rd_T26 l0 (ji44)).f0)) ∧ w'.cell? ⟨(ad213.add (((ji44)).toNat * 3)).block, (ad213.add (((ji44)).toNat * 3)).off + 1, none⟩ = some (.int .i64 ((rd_T26 l0 (ji44)).f1)) ∧ w'.cell? ⟨(ad213.add (((ji44)).toNat * 3)).block, (ad213.add (((ji44)).toNat * 3)).off + 2, none⟩ = some (.int .i64 ((rd_T26 l0 (ji44)).f2)) ∧ w'.cell? (ad213.add ((x12_3).toNat * 3)) = some (.int .i64 ((rd_T26 l0 x12_3).f0)) ∧ w'.cell? ⟨(ad213.add ((x12_3).toNat * 3)).block, (ad213.add ((x12_3).toNat * 3)).off + 1, none⟩ = some (.int .i64 ((rd_T26 l0 x12_3).f1)) ∧ w'.cell? ⟨(ad213.add ((x12_3).toNat * 3)).block, (ad213.add ((x12_3).toNat * 3)).off + 2, none⟩ = some (.int .i64 ((rd_T26 l0 x12_3).f2))) ∧ (Kd.R k26 26 w' w.heap.size (fun k_ => k_ ≠ s_.1 ∧ k_ ≠ s_.2) v206 t204) ∧ (w'.heap[s_.1]? = some (.cells #[.int .i64 0, .int .i64 0, .int .i64 0] 26 (0, 0))) ∧ (w'.heap[s_.2]? = some (.cells #[.int .i64 0, .int .i64 0, .int .i64 0] 26 (0, 0))) ∧ (w.heap.size ≤ s_.1) ∧ (w.heap.size ≤ s_.1) ∧ (s_.2 ≠ s_.1) ∧ (s_.1 ≠ s_.2) ∧ (w.heap.size ≤ s_.2) ∧ (w.heap.size ≤ s_.2) ∧ (Below w.heap.size w w')) ?_ ?_
                     rotate_left
                     ·intro hJ5_10_11_12
                      refine join_ (σ := Nat) 3 zb5_29 (fun s_ => [(89, .agg #[.int .i64 t214, .int .i64 t215, .int .i64 t216]), (94, .agg #[.int .i64 t218, .int .i64 t219, .int .i64 t220]), (13, .pointer (some ⟨s_, 0, none⟩))]) (fun s_ w' => (w'.cell? (ad213.add (((ji44)).toNat * 3)) = some (.int .i64 ((rd_T26 l0 (ji44)).f0)) ∧ w'.cell? ⟨(ad213.add (((ji44)).toNat * 3)).block, (ad213.add (((ji44)).toNat * 3)).off + 1, none⟩ = some (.int .i64 ((rd_T26 l0 (ji44)).f1)) ∧ w'.cell? ⟨(ad213.add (((ji44)).toNat * 3)).block, (ad213.add (((ji44)).toNat * 3)).off + 2, none⟩ = some (.int .i64 ((rd_T26 l0 (ji44)).f2)) ∧ w'.cell? (ad213.add ((x12_3).toNat * 3)) = some (.int .i64 ((rd_T26 l0 x12_3).f0)) ∧ w'.cell? ⟨(ad213.add ((x12_3).toNat * 3)).block, (ad213.add ((x12_3).toNat * 3)).off + 1, none⟩ = some (.int .i64 ((rd_T26 l0 x12_3).f1)) ∧ w'.cell? ⟨(ad213.add ((x12_3).toNat * 3)).block, (ad213.add ((x12_3).toNat * 3)).off + 2, none⟩ = some (.int .i64 ((rd_T26 l0 x12_3).f2))) ∧ (Kd.R k26 26 w' w.heap.size (fun k_ => k_ ≠ s_) v206 t204) ∧ (w'.heap[s_]? = some (.cells #[.int .i64 0, .int .i64 0, .int .i64 0] 26 (0, 0))) ∧ (w.heap.size ≤ s_) ∧ (w.heap.size ≤ s_) ∧ (Below w.heap.size w w')) ?_ ?_
                      rotate_left
                      ·intro hJ5_10_11
                       refine join_ (σ := Nat) 3 zb5_30 (fun s_ => [(89, .agg #[.int .i64 t214, .int .i64 t215, .int .i64 t216]), (94, .agg #[.int .i64 t218, .int .i64 t219, .int .i64 t220]), (14, .pointer (some ⟨s_, 0, none⟩))]) (fun s_ w' => (w'.cell? (ad213.add (((ji44)).toNat * 3)) = some (.int .i64 ((rd_T26 l0 (ji44)).f0)) ∧ w'.cell? ⟨(ad213.add (((ji44)).toNat * 3)).block, (ad213.add (((ji44)).toNat * 3)).off + 1, none⟩ = some (.int .i64 ((rd_T26 l0 (ji44)).f1)) ∧ w'.cell? ⟨(ad213.add (((ji44)).toNat * 3)).block, (ad213.add (((ji44)).toNat * 3)).off + 2, none⟩ = some (.int .i64 ((rd_T26 l0 (ji44)).f2)) ∧ w'.cell? (ad213.add ((x12_3).toNat * 3)) = some (.int .i64 ((rd_T26 l0 x12_3).f0)) ∧ w'.cell? ⟨(ad213.add ((x12_3).toNat * 3)).block, (ad213.add ((x12_3).toNat * 3)).off + 1, none⟩ = some (.int .i64 ((rd_T26 l0 x12_3).f1)) ∧ w'.cell? ⟨(ad213.add ((x12_3).toNat * 3)).block, (ad213.add ((x12_3).toNat * 3)).off + 2, none⟩ = some (.int .i64 ((rd_T26 l0 x12_3).f2))) ∧ (Kd.R k26 26 w' w.heap.size (fun k_ => k_ ≠ s_) v206 t204) ∧ (w'.heap[s_]? = some (.cells #[.int .i64 0, .int .i64 0, .int .i64 0] 26 (0, 0))) ∧ (w.heap.size ≤ s_) ∧ (w.heap.size ≤ s_) ∧ (Below w.heap.size w w')) ?_ ?_
                       rotate_left
                       ·intro hJ5_10_12
                        refine join_ (σ := Nat × Nat) 3 zb5_31 (fun s_ => [(89, .agg #[.int .i64 t214, .int .i64 t215, .int .i64 t216]), (13, .pointer (some ⟨s_.1, 0, none⟩)), (14, .pointer (some ⟨s_.2, 0, none⟩))]) (fun s_ w' => (w'.cell? (ad213.add (((ji44)).toNat * 3)) = some (.int .i64 ((rd_T26 l0 (ji44)).f0)) ∧ w'.cell? ⟨(ad213.add (((ji44)).toNat * 3)).block, (ad213.add (((ji44)).toNat * 3)).off + 1, none⟩ = some (.int .i64 ((rd_T26 l0 (ji44)).f1)) ∧ w'.cell? ⟨(ad213.add (((ji44)).toNat * 3)).block, (ad213.add (((ji44)).toNat * 3)).off + 2, none⟩ = some (.int .i64 ((rd_T26 l0 (ji44)).f2)) ∧ w'.cell? (ad213.add ((x12_3).toNat * 3)) = some (.int .i64 ((rd_T26 l0 x12_3).f0)) ∧ w'.cell? ⟨(ad213.add ((x12_3).toNat * 3)).block, (ad213.add ((x12_3).toNat * 3)).off + 1, none⟩ = some (.int .i64 ((rd_T26 l0 x12_3).f1)) ∧ w'.cell? ⟨(ad213.add ((x12_3).toNat * 3)).block, (ad213.add ((x12_3).toNat * 3)).off + 2, none⟩ = some (.int .i64 ((rd_T26 l0 x12_3).f2))) ∧ (Kd.R k26 26 w' w.heap.size (fun k_ => k_ ≠ s_.1 ∧ k_ ≠ s_.2) v206 t204) ∧ (w'.heap[s_.1]? = some (.cells #[.int .i64 0, .int .i64 0, .int .i64 0] 26 (0, 0))) ∧ (w'.heap[s_.2]? = some (.cells #[.int .i64 0, .int .i64 0, .int .i64 0] 26 (0, 0))) ∧ (w.heap.size ≤ s_.1) ∧ (w.heap.size ≤ s_.1) ∧ (s_.2 ≠ s_.1) ∧ (s_.1 ≠ s_.2) ∧ (w.heap.size ≤ s_.2) ∧ (w.heap.size ≤ s_.2) ∧ (Below w.heap.size w w')) ?_ ?_
                        rotate_left
                        ·intro hJ5_11_12
                         refine join_ (σ := Unit) 4 zb5_32 (fun s_ => [(89, .agg #[.int .i64 t214, .int .i64 t215, .int .i64 t216]), (94, .agg #[.int .i64 t218, .int .i64 t219, .int .i64 t220])]) (fun s_ w' => (w'.cell? (ad213.add (((ji44)).toNat * 3)) = some (.int .i64 ((rd_T26 l0 (ji44)).f0)) ∧ w'.cell? ⟨(ad213.add (((ji44)).toNat * 3)).block, (ad213.add (((ji44)).toNat * 3)).off + 1, none⟩ = some (.int .i64 ((rd_T26 l0 (ji44)).f1)) ∧ w'.cell? ⟨(ad213.add (((ji44)).toNat * 3)).block, (ad213.add (((ji44)).toNat * 3)).off + 2, none⟩ = some (.int .i64 ((rd_T26 l0 (ji44)).f2)) ∧ w'.cell? (ad213.add ((x12_3).toNat * 3)) = some (.int .i64 ((rd_T26 l0 x12_3).f0)) ∧ w'.cell? ⟨(ad213.add ((x12_3).toNat * 3)).block, (ad213.add ((x12_3).toNat * 3)).off + 1, none⟩ = some (.int .i64 ((rd_T26 l0 x12_3).f1)) ∧ w'.cell? ⟨(ad213.add ((x12_3).toNat * 3)).block, (ad213.add ((x12_3).toNat * 3)).off + 2, none⟩ = some (.int .i64 ((rd_T26 l0 x12_3).f2))) ∧ (Kd.R k26 26 w' w.heap.size (fun _ => True) v206 t204) ∧ (Below w.heap.size w w')) ?_ ?_
                         rotate_left
                         ·intro hJ5_10
                          refine join_ (σ := Nat) 4 zb5_33 (fun s_ => [(89, .agg #[.int .i64 t214, .int .i64 t215, .int .i64 t216]), (13, .pointer (some ⟨s_, 0, none⟩))]) (fun s_ w' => (w'.cell? (ad213.add (((ji44)).toNat * 3)) = some (.int .i64 ((rd_T26 l0 (ji44)).f0)) ∧ w'.cell? ⟨(ad213.add (((ji44)).toNat * 3)).block, (ad213.add (((ji44)).toNat * 3)).off + 1, none⟩ = some (.int .i64 ((rd_T26 l0 (ji44)).f1)) ∧ w'.cell? ⟨(ad213.add (((ji44)).toNat * 3)).block, (ad213.add (((ji44)).toNat * 3)).off + 2, none⟩ = some (.int .i64 ((rd_T26 l0 (ji44)).f2)) ∧ w'.cell? (ad213.add ((x12_3).toNat * 3)) = some (.int .i64 ((rd_T26 l0 x12_3).f0)) ∧ w'.cell? ⟨(ad213.add ((x12_3).toNat * 3)).block, (ad213.add ((x12_3).toNat * 3)).off + 1, none⟩ = some (.int .i64 ((rd_T26 l0 x12_3).f1)) ∧ w'.cell? ⟨(ad213.add ((x12_3).toNat * 3)).block, (ad213.add ((x12_3).toNat * 3)).off + 2, none⟩ = some (.int .i64 ((rd_T26 l0 x12_3).f2))) ∧ (Kd.R k26 26 w' w.heap.size (fun k_ => k_ ≠ s_) v206 t204) ∧ (w'.heap[s_]? = some (.cells #[.int .i64 0, .int .i64 0, .int .i64 0] 26 (0, 0))) ∧ (w.heap.size ≤ s_) ∧ (w.heap.size ≤ s_) ∧ (Below w.heap.size w w')) ?_ ?_
                          rotate_left
                          ·intro hJ5_11
                           refine join_ (σ := Nat) 4 zb5_34 (fun s_ => [(89, .agg #[.int .i64 t214, .int .i64 t215, .int .i64 t216]), (14, .pointer (some ⟨s_, 0, none⟩))]) (fun s_ w' => (w'.cell? (ad213.add (((ji44)).toNat * 3)) = some (.int .i64 ((rd_T26 l0 (ji44)).f0)) ∧ w'.cell? ⟨(ad213.add (((ji44)).toNat * 3)).block, (ad213.add (((ji44)).toNat * 3)).off + 1, none⟩ = some (.int .i64 ((rd_T26 l0 (ji44)).f1)) ∧ w'.cell? ⟨(ad213.add (((ji44)).toNat * 3)).block, (ad213.add (((ji44)).toNat * 3)).off + 2, none⟩ = some (.int .i64 ((rd_T26 l0 (ji44)).f2)) ∧ w'.cell? (ad213.add ((x12_3).toNat * 3)) = some (.int .i64 ((rd_T26 l0 x12_3).f0)) ∧ w'.cell? ⟨(ad213.add ((x12_3).toNat * 3)).block, (ad213.add ((x12_3).toNat * 3)).off + 1, none⟩ = some (.int .i64 ((rd_T26 l0 x12_3).f1)) ∧ w'.cell? ⟨(ad213.add ((x12_3).toNat * 3)).block, (ad213.add ((x12_3).toNat * 3)).off + 2, none⟩ = some (.int .i64 ((rd_T26 l0 x12_3).f2))) ∧ (Kd.R k26 26 w' w.heap.size (fun k_ => k_ ≠ s_) v206 t204) ∧ (w'.heap[s_]? = some (.cells #[.int .i64 0, .int .i64 0, .int .i64 0] 26 (0, 0))) ∧ (w.heap.size ≤ s_) ∧ (w.heap.size ≤ s_) ∧ (Below w.heap.size w w')) ?_ ?_
                           rotate_left
                           ·intro hJ5_12
                            refine join_ (σ := Nat × Nat) 4 zb5_35 (fun s_ => [(13, .pointer (some ⟨s_.1, 0, none⟩)), (14, .pointer (some ⟨s_.2, 0, none⟩))]) (fun s_ w' => (w'.cell? (ad213.add (((ji44)).toNat * 3)) = some (.int .i64 ((rd_T26 l0 (ji44)).f0)) ∧ w'.cell? ⟨(ad213.add (((ji44)).toNat * 3)).block, (ad213.add (((ji44)).toNat * 3)).off + 1, none⟩ = some (.int .i64 ((rd_T26 l0 (ji44)).f1)) ∧ w'.cell? ⟨(ad213.add (((ji44)).toNat * 3)).block, (ad213.add (((ji44)).toNat * 3)).off + 2, none⟩ = some (.int .i64 ((rd_T26 l0 (ji44)).f2)) ∧ w'.cell? (ad213.add ((x12_3).toNat * 3)) = some (.int .i64 ((rd_T26 l0 x12_3).f0)) ∧ w'.cell? ⟨(ad213.add ((x12_3).toNat * 3)).block, (ad213.add ((x12_3).toNat * 3)).off + 1, none⟩ = some (.int .i64 ((rd_T26 l0 x12_3).f1)) ∧ w'.cell? ⟨(ad213.add ((x12_3).toNat * 3)).block, (ad213.add ((x12_3).toNat * 3)).off + 2, none⟩ = some (.int .i64 ((rd_T26 l0 x12_3).f2))) ∧ (Kd.R k26 26 w' w.heap.size (fun k_ => k_ ≠ s_.1 ∧ k_ ≠ s_.2) v206 t204) ∧ (w'.heap[s_.1]? = some (.cells #[.int .i64 0, .int .i64 0, .int .i64 0] 26 (0, 0))) ∧ (w'.heap[s_.2]? = some (.cells #[.int .i64 0, .int .i64 0, .int .i64 0] 26 (0, 0))) ∧ (w.heap.size ≤ s_.1) ∧ (w.heap.size ≤ s_.1) ∧ (s_.2 ≠ s_.1) ∧ (s_.1 ≠ s_.2) ∧ (w.heap.size ≤ s_.2) ∧ (w.heap.size ≤ s_.2) ∧ (Below w.heap.size w w')) ?_ ?_
                            rotate_left
                            ·intro hJ11_12
                             refine join_ (σ := Unit) 5 zb5_36 (fun s_ => [(89, .agg #[.int .i64 t214, .int .i64 t215, .int .i64 t216])]) (fun s_ w' => (w'.cell? (ad213.add (((ji44)).toNat * 3)) = some (.int .i64 ((rd_T26 l0 (ji44)).f0)) ∧ w'.cell? ⟨(ad213.add (((ji44)).toNat * 3)).block, (ad213.add (((ji44)).toNat * 3)).off + 1, none⟩ = some (.int .i64 ((rd_T26 l0 (ji44)).f1)) ∧ w'.cell? ⟨(ad213.add (((ji44)).toNat * 3)).block, (ad213.add (((ji44)).toNat * 3)).off + 2, none⟩ = some (.int .i64 ((rd_T26 l0 (ji44)).f2)) ∧ w'.cell? (ad213.add ((x12_3).toNat * 3)) = some (.int .i64 ((rd_T26 l0 x12_3).f0)) ∧ w'.cell? ⟨(ad213.add ((x12_3).toNat * 3)).block, (ad213.add ((x12_3).toNat * 3)).off + 1, none⟩ = some (.int .i64 ((rd_T26 l0 x12_3).f1)) ∧ w'.cell? ⟨(ad213.add ((x12_3).toNat * 3)).block, (ad213.add ((x12_3).toNat * 3)).off + 2, none⟩ = some (.int .i64 ((rd_T26 l0 x12_3).f2))) ∧ (Kd.R k26 26 w' w.heap.size (fun _ => True) v206 t204) ∧ (Below w.heap.size w w')) ?_ ?_
                             rotate_left
                             ·intro hJ5
                              refine join_ (σ := Nat) 5 zb5_37 (fun s_ => [(13, .pointer (some ⟨s_, 0, none⟩))]) (fun s_ w' => (w'.cell? (ad213.add (((ji44)).toNat * 3)) = some (.int .i64 ((rd_T26 l0 (ji44)).f0)) ∧ w'.cell? ⟨(ad213.add (((ji44)).toNat * 3)).block, (ad213.add (((ji44)).toNat * 3)).off + 1, none⟩ = some (.int .i64 ((rd_T26 l0 (ji44)).f1)) ∧ w'.cell? ⟨(ad213.add (((ji44)).toNat * 3)).block, (ad213.add (((ji44)).toNat * 3)).off + 2, none⟩ = some (.int .i64 ((rd_T26 l0 (ji44)).f2)) ∧ w'.cell? (ad213.add ((x12_3).toNat * 3)) = some (.int .i64 ((rd_T26 l0 x12_3).f0)) ∧ w'.cell? ⟨(ad213.add ((x12_3).toNat * 3)).block, (ad213.add ((x12_3).toNat * 3)).off + 1, none⟩ = some (.int .i64 ((rd_T26 l0 x12_3).f1)) ∧ w'.cell? ⟨(ad213.add ((x12_3).toNat * 3)).block, (ad213.add ((x12_3).toNat * 3)).off + 2, none⟩ = some (.int .i64 ((rd_T26 l0 x12_3).f2))) ∧ (Kd.R k26 26 w' w.heap.size (fun k_ => k_ ≠ s_) v206 t204) ∧ (w'.heap[s_]? = some (.cells #[.int .i64 0, .int .i64 0, .int .i64 0] 26 (0, 0))) ∧ (w.heap.size ≤ s_) ∧ (w.heap.size ≤ s_) ∧ (Below w.heap.size w w')) ?_ ?_
                              rotate_left
                              ·intro hJ11
                               refine join_ (σ := Nat) 5 zb5_38 (fun s_ => [(14, .pointer (some ⟨s_, 0, none⟩))]) (fun s_ w' => (w'.cell? (ad213.add (((ji44)).toNat * 3)) = some (.int .i64 ((rd_T26 l0 (ji44)).f0)) ∧ w'.cell? ⟨(ad213.add (((ji44)).toNat * 3)).block, (ad213.add (((ji44)).toNat * 3)).off + 1, none⟩ = some (.int .i64 ((rd_T26 l0 (ji44)).f1)) ∧ w'.cell? ⟨(ad213.add (((ji44)).toNat * 3)).block, (ad213.add (((ji44)).toNat * 3)).off + 2, none⟩ = some (.int .i64 ((rd_T26 l0 (ji44)).f2)) ∧ w'.cell? (ad213.add ((x12_3).toNat * 3)) = some (.int .i64 ((rd_T26 l0 x12_3).f0)) ∧ w'.cell? ⟨(ad213.add ((x12_3).toNat * 3)).block, (ad213.add ((x12_3).toNat * 3)).off + 1, none⟩ = some (.int .i64 ((rd_T26 l0 x12_3).f1)) ∧ w'.cell? ⟨(ad213.add ((x12_3).toNat * 3)).block, (ad213.add ((x12_3).toNat * 3)).off + 2, none⟩ = some (.int .i64 ((rd_T26 l0 x12_3).f2))) ∧ (Kd.R k26 26 w' w.heap.size (fun k_ => k_ ≠ s_) v206 t204) ∧ (w'.heap[s_]? = some (.cells #[.int .i64 0, .int .i64 0, .int .i64 0] 26 (0, 0))) ∧ (w.heap.size ≤ s_) ∧ (w.heap.size ≤ s_) ∧ (Below w.heap.size w w')) ?_ ?_
                               rotate_left
                               ·intro hJ12
                                refine three_ (i := 5) (j := 11) (k := 12) (Ni := some 89) (Nj := some 13) (Nk := some 14) zb5_36 #[true, true, true, true, true, false, true, true, true, true, false, true, false, false, false] #[true, true, true, true, true, false, true, true, true, true, false, false, true, false, false] rfl rfl rfl rfl rfl rfl (three_of HT_.out (by kernel_rfl)) (by decide) (by decide) (by decide) (fun K hK => ?_) (fun K hK => ?_) (fun K hK => ?_)
                                ·skip
                                 refine goes_ Try.func6 (by kernel_rfl) rfl #[.agg #[.int .i64 ((rd_T26 l0 (ji44)).f0), .int .i64 ((rd_T26 l0 (ji44)).f1), .int .i64 ((rd_T26 l0 (ji44)).f2)]] (by rfl) rfl rfl (by (try simp only [List.map_toArray, List.map_cons, List.map_nil]); first | done | (simp only [hji44]; rfl) | rfl | (simp only [List.length_drop, List.length_take]; rfl)) ?_
                                 with_reducible refine (lodestonelaw25_few.calls ((rd_T26 l0 (ji44)).f0) ((rd_T26 l0 (ji44)).f1) ((rd_T26 l0 (ji44)).f2) t214 t215 t216 _ A47.out).mono ?_
                                 rintro e w54 ⟨rfl, hb⟩
                                 refine ⟨_, rfl, ?_⟩
                                 have n0_ := Aside0.mk (Kd.R_below (by (with_reducible repeat (first | apply Kd.R_alloc | apply Kd.R_drewN | apply Kd.R_drew)); exact HO_8.out) hb)
                                 have n1_ := Aside0.mk (below_step (by repeat (first | (with_reducible first | exact HB.out | apply below_alloc | apply pw_below_drewN | apply below_drew1) | exact HB.out)) hb)
                                 clear HO_8
                                 clear HB
                                 have HO_8 := n0_
                                 have HB := n1_
                                 clear n0_ n1_
                                 (try clear hb)
                                 (try clear hb2)
                                 (try clear hk)
                                 (try clear hi)
                                 refine hK.out _ _ ⟨((HB.out.cell (World.block_lt_of_cell? w _ hw213_0)).trans hw213_0), ((HB.out.cell (World.block_lt_of_cell? w _ hw213_1)).trans hw213_1), ((HB.out.cell (World.block_lt_of_cell? w _ hw213_2)).trans hw213_2), ((HB.out.cell (World.block_lt_of_cell? w _ hw217_0)).trans hw217_0), ((HB.out.cell (World.block_lt_of_cell? w _ hw217_1)).trans hw217_1), ((HB.out.cell (World.block_lt_of_cell? w _ hw217_2)).trans hw217_2)⟩ (fun hHeld => ?_)
                                 clear hK K
                                 refine norm_ (a' := ?_) ?_ ?_
                                 rotate_left
                                 ·show Act.put _ (some 89) _ = _
                                  simp only [Act.put, List.setIfInBounds_toArray, List.set_cons_zero, List.set_cons_succ, i64_w, i32_w]
                                  rfl
                                 exact norm_ (by first | (simp only [putAll, Act.put, List.setIfInBounds_toArray, List.set_cons_zero, List.set_cons_succ]; done) | (simp only [putAll, Act.put, List.setIfInBounds_toArray, List.set_cons_zero, List.set_cons_succ]; rfl)) (hJ5 () _ ⟨hHeld, (by (with_reducible repeat (first | apply Kd.R_alloc | apply Kd.R_drewN | apply Kd.R_drew)); exact HO_8.out), (by repeat (first | (with_reducible first | exact HB.out | apply below_alloc | apply pw_below_drewN | apply below_drew1) | exact HB.out))⟩)
                                ·skip
                                 refine box_step ?hg (N := 13) ?hd (cs := #[.int .i64 0, .int .i64 0, .int .i64 0]) (t := 26) ?hr ?_; (case hd => rfl); (case hg => rfl); (case hr => first | (go_simp; done) | (go_simp; rfl))
                                 intro gb221 hg w54 hbox hb
                                 have n0_ := Aside0.mk (Kd.R_below (Kd.R_elderB (by (with_reducible repeat (first | apply Kd.R_alloc | apply Kd.R_drewN | apply Kd.R_drew)); exact HO_8.out) gb221 (Nat.le_of_eq hg.symm)) hb)
                                 have n1_ := Aside0.mk (below_step (by repeat (first | (with_reducible first | exact HB.out | apply below_alloc | apply pw_below_drewN | apply below_drew1) | exact HB.out)) hb)
                                 have n2_ := Aside0.mk (hbox)
                                 have n3_ := Aside0.mk ((by rw [hg]; exact (below_size (by repeat (first | (with_reducible first | exact HB.out | apply below_alloc | apply pw_below_drewN | apply below_drew1) | exact HB.out))) : w.heap.size ≤ gb221))
                                 have n4_ := Aside0.mk ((by rw [hg]; exact (below_size (by repeat (first | (with_reducible first | exact HB.out | apply below_alloc | apply pw_below_drewN | apply below_drew1) | exact HB.out))) : w.heap.size ≤ gb221))
                                 clear HO_8
                                 clear HB
                                 have HO_8 := n0_
                                 have HB := n1_
                                 have BK221 := n2_
                                 have GW221 := n3_
                                 have GE221 := n4_
                                 clear n0_ n1_ n2_ n3_ n4_
                                 clear hb hbox hg
                                 refine hK.out _ _ ⟨((HB.out.cell (World.block_lt_of_cell? w _ hw213_0)).trans hw213_0), ((HB.out.cell (World.block_lt_of_cell? w _ hw213_1)).trans hw213_1), ((HB.out.cell (World.block_lt_of_cell? w _ hw213_2)).trans hw213_2), ((HB.out.cell (World.block_lt_of_cell? w _ hw217_0)).trans hw217_0), ((HB.out.cell (World.block_lt_of_cell? w _ hw217_1)).trans hw217_1), ((HB.out.cell (World.block_lt_of_cell? w _ hw217_2)).trans hw217_2)⟩ (fun hHeld => ?_)
                                 clear hK K
                                 refine norm_ (a' := ?_) ?_ ?_
                                 rotate_left
                                 ·show Act.put _ (some 13) _ = _
                                  simp only [Act.put, List.setIfInBounds_toArray, List.set_cons_zero, List.set_cons_succ, i64_w, i32_w]
                                  rfl
                                 exact norm_ (by first | (simp only [putAll, Act.put, List.setIfInBounds_toArray, List.set_cons_zero, List.set_cons_succ]; done) | (simp only [putAll, Act.put, List.setIfInBounds_toArray, List.set_cons_zero, List.set_cons_succ]; rfl)) (hJ11 (gb221) _ ⟨hHeld, (by (with_reducible repeat (first | apply Kd.R_alloc | apply Kd.R_drewN | apply Kd.R_drew)); exact Kd.R_mono HO_8.out (fun _ hk => hk.2)), (by (with_reducible repeat (first | refine blk_drewN ?_ _ | refine blk_drew ?_ | refine blk_alloc ?_ _)); exact BK221.out), GW221.out, GE221.out, (by repeat (first | (with_reducible first | exact HB.out | apply below_alloc | apply pw_below_drewN | apply below_drew1 | refine below_set ?_ GE221.out) | exact HB.out))⟩)
                                ·skip
                                 refine box_step ?hg (N := 14) ?hd (cs := #[.int .i64 0, .int .i64 0, .int .i64 0]) (t := 26) ?hr ?_; (case hd => rfl); (case hg => rfl); (case hr => first | (go_simp; done) | (go_simp; rfl))
                                 intro gb222 hg w54 hbox hb
                                 have n0_ := Aside0.mk (Kd.R_below (Kd.R_elderB (by (with_reducible repeat (first | apply Kd.R_alloc | apply Kd.R_drewN | apply Kd.R_drew)); exact HO_8.out) gb222 (Nat.le_of_eq hg.symm)) hb)
                                 have n1_ := Aside0.mk (below_step (by repeat (first | (with_reducible first | exact HB.out | apply below_alloc | apply pw_below_drewN | apply below_drew1) | exact HB.out)) hb)
                                 have n2_ := Aside0.mk (hbox)
                                 have n3_ := Aside0.mk ((by rw [hg]; exact (below_size (by repeat (first | (with_reducible first | exact HB.out | apply below_alloc | apply pw_below_drewN | apply below_drew1) | exact HB.out))) : w.heap.size ≤ gb222))
                                 have n4_ := Aside0.mk ((by rw [hg]; exact (below_size (by repeat (first | (with_reducible first | exact HB.out | apply below_alloc | apply pw_below_drewN | apply below_drew1) | exact HB.out))) : w.heap.size ≤ gb222))
                                 clear HO_8
                                 clear HB
                                 have HO_8 := n0_
                                 have HB := n1_
                                 have BK222 := n2_
                                 have GW222 := n3_
                                 have GE222 := n4_
                                 clear n0_ n1_ n2_ n3_ n4_
                                 clear hb hbox hg
                                 refine hK.out _ _ ⟨((HB.out.cell (World.block_lt_of_cell? w _ hw213_0)).trans hw213_0), ((HB.out.cell (World.block_lt_of_cell? w _ hw213_1)).trans hw213_1), ((HB.out.cell (World.block_lt_of_cell? w _ hw213_2)).trans hw213_2), ((HB.out.cell (World.block_lt_of_cell? w _ hw217_0)).trans hw217_0), ((HB.out.cell (World.block_lt_of_cell? w _ hw217_1)).trans hw217_1), ((HB.out.cell (World.block_lt_of_cell? w _ hw217_2)).trans hw217_2)⟩ (fun hHeld => ?_)
                                 clear hK K
                                 refine norm_ (a' := ?_) ?_ ?_
                                 rotate_left
                                 ·show Act.put _ (some 14) _ = _
                                  simp only [Act.put, List.setIfInBounds_toArray, List.set_cons_zero, List.set_cons_succ, i64_w, i32_w]
                                  rfl
                                 exact norm_ (by first | (simp only [putAll, Act.put, List.setIfInBounds_toArray, List.set_cons_zero, List.set_cons_succ]; done) | (simp only [putAll, Act.put, List.setIfInBounds_toArray, List.set_cons_zero, List.set_cons_succ]; rfl)) (hJ12 (gb222) _ ⟨hHeld, (by (with_reducible repeat (first | apply Kd.R_alloc | apply Kd.R_drewN | apply Kd.R_drew)); exact Kd.R_mono HO_8.out (fun _ hk => hk.2)), (by (with_reducible repeat (first | refine blk_drewN ?_ _ | refine blk_drew ?_ | refine blk_alloc ?_ _)); exact BK222.out), GW222.out, GE222.out, (by repeat (first | (with_reducible first | exact HB.out | apply below_alloc | apply pw_below_drewN | apply below_drew1 | refine below_set ?_ GE222.out) | exact HB.out))⟩)
                               ·skip
                                rintro gb222 w55 ⟨hS_, h0_, h1_, h2_, h3_, h4_⟩
                                have n0_ : Aside0 (Kd.R k26 26 w55 w.heap.size (fun k_ => k_ ≠ gb222) v206 t204) := ⟨h0_⟩
                                have n1_ : Aside0 (w55.heap[gb222]? = some (.cells #[.int .i64 0, .int .i64 0, .int .i64 0] 26 (0, 0))) := ⟨h1_⟩
                                have n2_ : Aside0 (w.heap.size ≤ gb222) := ⟨h2_⟩
                                have n3_ : Aside0 (w.heap.size ≤ gb222) := ⟨h3_⟩
                                have n4_ : Aside0 (Below w.heap.size w w55) := ⟨h4_⟩
                                clear HO_8
                                clear HB
                                clear h0_ h1_ h2_ h3_ h4_
                                have HO_8 := n0_
                                have BK222 := n1_
                                have GW222 := n2_
                                have GE222 := n3_
                                have HB := n4_
                                clear n0_ n1_ n2_ n3_ n4_
                                have hHeld : w55.cell? (ad213.add (((ji44)).toNat * 3)) = some (.int .i64 ((rd_T26 l0 (ji44)).f0)) ∧ w55.cell? ⟨(ad213.add (((ji44)).toNat * 3)).block, (ad213.add (((ji44)).toNat * 3)).off + 1, none⟩ = some (.int .i64 ((rd_T26 l0 (ji44)).f1)) ∧ w55.cell? ⟨(ad213.add (((ji44)).toNat * 3)).block, (ad213.add (((ji44)).toNat * 3)).off + 2, none⟩ = some (.int .i64 ((rd_T26 l0 (ji44)).f2)) ∧ w55.cell? (ad213.add ((x12_3).toNat * 3)) = some (.int .i64 ((rd_T26 l0 x12_3).f0)) ∧ w55.cell? ⟨(ad213.add ((x12_3).toNat * 3)).block, (ad213.add ((x12_3).toNat * 3)).off + 1, none⟩ = some (.int .i64 ((rd_T26 l0 x12_3).f1)) ∧ w55.cell? ⟨(ad213.add ((x12_3).toNat * 3)).block, (ad213.add ((x12_3).toNat * 3)).off + 2, none⟩ = some (.int .i64 ((rd_T26 l0 x12_3).f2)) := hS_
                                refine norm_ (a' := ?_) ?_ ?_
                                rotate_left
                                ·simp only [putAll, Act.put, List.setIfInBounds_toArray, List.set_cons_zero, List.set_cons_succ]
                                 rfl
                                refine two_ (i := 5) (j := 11) (Ni := some 89) (Nj := some 13) zb5_34 #[true, true, true, true, true, false, true, true, true, true, false, true, true, false, false] rfl rfl rfl rfl (two_of HT_.out (by kernel_rfl)) (by decide) (by decide) (fun K hK => ?_) (fun K hK => ?_)
                                ·skip
                                 refine goes_ Try.func6 (by kernel_rfl) rfl #[.agg #[.int .i64 ((rd_T26 l0 (ji44)).f0), .int .i64 ((rd_T26 l0 (ji44)).f1), .int .i64 ((rd_T26 l0 (ji44)).f2)]] (by rfl) rfl rfl (by (try simp only [List.map_toArray, List.map_cons, List.map_nil]); first | done | (simp only [hji44]; rfl) | rfl | (simp only [List.length_drop, List.length_take]; rfl)) ?_
                                 with_reducible refine (lodestonelaw25_few.calls ((rd_T26 l0 (ji44)).f0) ((rd_T26 l0 (ji44)).f1) ((rd_T26 l0 (ji44)).f2) t214 t215 t216 _ A47.out).mono ?_
                                 rintro e w56 ⟨rfl, hb⟩
                                 refine ⟨_, rfl, ?_⟩
                                 have n0_ := Aside0.mk (Kd.R_below (by (with_reducible repeat (first | apply Kd.R_alloc | apply Kd.R_drewN | apply Kd.R_drew)); exact HO_8.out) hb)
                                 have n1_ := Aside0.mk (blk_below (g := gb222) (o := .cells #[.int .i64 0, .int .i64 0, .int .i64 0] 26 (0, 0)) (by (with_reducible repeat (first | refine blk_drewN ?_ _ | refine blk_drew ?_ | refine blk_alloc ?_ _)); exact BK222.out) hb)
                                 have n2_ := Aside0.mk (below_step (by repeat (first | (with_reducible first | exact HB.out | apply below_alloc | apply pw_below_drewN | apply below_drew1 | refine below_set ?_ GE222.out) | exact HB.out)) hb)
                                 clear HO_8
                                 clear BK222
                                 clear HB
                                 have HO_8 := n0_
                                 have BK222 := n1_
                                 have HB := n2_
                                 clear n0_ n1_ n2_
                                 (try clear hb)
                                 (try clear hb2)
                                 (try clear hk)
                                 (try clear hi)
                                 refine hK.out _ _ ⟨((HB.out.cell (World.block_lt_of_cell? w _ hw213_0)).trans hw213_0), ((HB.out.cell (World.block_lt_of_cell? w _ hw213_1)).trans hw213_1), ((HB.out.cell (World.block_lt_of_cell? w _ hw213_2)).trans hw213_2), ((HB.out.cell (World.block_lt_of_cell? w _ hw217_0)).trans hw217_0), ((HB.out.cell (World.block_lt_of_cell? w _ hw217_1)).trans hw217_1), ((HB.out.cell (World.block_lt_of_cell? w _ hw217_2)).trans hw217_2)⟩ (fun hHeld => ?_)
                                 clear hK K
                                 refine norm_ (a' := ?_) ?_ ?_
                                 rotate_left
                                 ·show Act.put _ (some 89) _ = _
                                  simp only [Act.put, List.setIfInBounds_toArray, List.set_cons_zero, List.set_cons_succ, i64_w, i32_w]
                                  rfl
                                 exact norm_ (by first | (simp only [putAll, Act.put, List.setIfInBounds_toArray, List.set_cons_zero, List.set_cons_succ]; done) | (simp only [putAll, Act.put, List.setIfInBounds_toArray, List.set_cons_zero, List.set_cons_succ]; rfl)) (hJ5_12 (gb222) _ ⟨hHeld, (by (with_reducible repeat (first | apply Kd.R_alloc | apply Kd.R_drewN | apply Kd.R_drew)); exact HO_8.out), (by (with_reducible repeat (first | refine blk_drewN ?_ _ | refine blk_drew ?_ | refine blk_alloc ?_ _)); exact BK222.out), GW222.out, GE222.out, (by repeat (first | (with_reducible first | exact HB.out | apply below_alloc | apply pw_below_drewN | apply below_drew1 | refine below_set ?_ GE222.out) | exact HB.out))⟩)
                                ·skip
                                 refine box_step ?hg (N := 13) ?hd (cs := #[.int .i64 0, .int .i64 0, .int .i64 0]) (t := 26) ?hr ?_; (case hd => rfl); (case hg => rfl); (case hr => first | (go_simp; done) | (go_simp; rfl))
                                 intro gb221 hg w56 hbox hb
                                 have n0_ := Aside0.mk (Kd.R_below (Kd.R_elderB (by (with_reducible repeat (first | apply Kd.R_alloc | apply Kd.R_drewN | apply Kd.R_drew)); exact HO_8.out) gb221 (Nat.le_of_eq hg.symm)) hb)
                                 have n1_ := Aside0.mk (blk_below (g := gb222) (o := .cells #[.int .i64 0, .int .i64 0, .int .i64 0] 26 (0, 0)) (by (with_reducible repeat (first | refine blk_drewN ?_ _ | refine blk_drew ?_ | refine blk_alloc ?_ _)); exact BK222.out) hb)
                                 have n2_ := Aside0.mk (below_step (by repeat (first | (with_reducible first | exact HB.out | apply below_alloc | apply pw_below_drewN | apply below_drew1 | refine below_set ?_ GE222.out) | exact HB.out)) hb)
                                 have n3_ := Aside0.mk (hbox)
                                 have n4_ := Aside0.mk ((by rw [hg]; exact (below_size (by repeat (first | (with_reducible first | exact HB.out | apply below_alloc | apply pw_below_drewN | apply below_drew1 | refine below_set ?_ GE222.out) | exact HB.out))) : w.heap.size ≤ gb221))
                                 have n5_ := Aside0.mk ((by rw [hg]; exact (below_size (by repeat (first | (with_reducible first | exact HB.out | apply below_alloc | apply pw_below_drewN | apply below_drew1 | refine below_set ?_ GE222.out) | exact HB.out))) : w.heap.size ≤ gb221))
                                 have n6_ := Aside0.mk ((by rw [hg]; exact Nat.ne_of_lt (blk_lt (g := gb222) (o := .cells #[.int .i64 0, .int .i64 0, .int .i64 0] 26 (0, 0)) (by (with_reducible repeat (first | refine blk_drewN ?_ _ | refine blk_drew ?_ | refine blk_alloc ?_ _)); exact BK222.out)) : gb222 ≠ gb221))
                                 have n7_ := Aside0.mk ((by rw [hg]; exact Nat.ne_of_gt (blk_lt (g := gb222) (o := .cells #[.int .i64 0, .int .i64 0, .int .i64 0] 26 (0, 0)) (by (with_reducible repeat (first | refine blk_drewN ?_ _ | refine blk_drew ?_ | refine blk_alloc ?_ _)); exact BK222.out)) : gb221 ≠ gb222))
                                 clear HO_8
                                 clear BK222
                                 clear HB
                                 have HO_8 := n0_
                                 have BK222 := n1_
                                 have HB := n2_
                                 have BK221 := n3_
                                 have GW221 := n4_
                                 have GE221 := n5_
                                 have NB222_221 := n6_
                                 have NB221_222 := n7_
                                 clear n0_ n1_ n2_ n3_ n4_ n5_ n6_ n7_
                                 clear hb hbox hg
                                 refine hK.out _ _ ⟨((HB.out.cell (World.block_lt_of_cell? w _ hw213_0)).trans hw213_0), ((HB.out.cell (World.block_lt_of_cell? w _ hw213_1)).trans hw213_1), ((HB.out.cell (World.block_lt_of_cell? w _ hw213_2)).trans hw213_2), ((HB.out.cell (World.block_lt_of_cell? w _ hw217_0)).trans hw217_0), ((HB.out.cell (World.block_lt_of_cell? w _ hw217_1)).trans hw217_1), ((HB.out.cell (World.block_lt_of_cell? w _ hw217_2)).trans hw217_2)⟩ (fun hHeld => ?_)
                                 clear hK K
                                 refine norm_ (a' := ?_) ?_ ?_
                                 rotate_left
                                 ·show Act.put _ (some 13) _ = _
                                  simp only [Act.put, List.setIfInBounds_toArray, List.set_cons_zero, List.set_cons_succ, i64_w, i32_w]
                                  rfl
                                 exact norm_ (by first | (simp only [putAll, Act.put, List.setIfInBounds_toArray, List.set_cons_zero, List.set_cons_succ]; done) | (simp only [putAll, Act.put, List.setIfInBounds_toArray, List.set_cons_zero, List.set_cons_succ]; rfl)) (hJ11_12 (gb221, gb222) _ ⟨hHeld, (by (with_reducible repeat (first | apply Kd.R_alloc | apply Kd.R_drewN | apply Kd.R_drew)); exact Kd.R_mono HO_8.out (fun _ hk => ⟨hk.2, hk.1⟩)), (by (with_reducible repeat (first | refine blk_drewN ?_ _ | refine blk_drew ?_ | refine blk_alloc ?_ _)); exact BK221.out), (by (with_reducible repeat (first | refine blk_drewN ?_ _ | refine blk_drew ?_ | refine blk_alloc ?_ _)); exact BK222.out), GW221.out, GE221.out, NB222_221.out, NB221_222.out, GW222.out, GE222.out, (by repeat (first | (with_reducible first | exact HB.out | apply below_alloc | apply pw_below_drewN | apply below_drew1 | refine below_set ?_ GE222.out | refine below_set ?_ GE221.out) | exact HB.out))⟩)
                              ·skip
                               rintro gb221 w55 ⟨hS_, h0_, h1_, h2_, h3_, h4_⟩
                               have n0_ : Aside0 (Kd.R k26 26 w55 w.heap.size (fun k_ => k_ ≠ gb221) v206 t204) := ⟨h0_⟩
                               have n1_ : Aside0 (w55.heap[gb221]? = some (.cells #[.int .i64 0, .int .i64 0, .int .i64 0] 26 (0, 0))) := ⟨h1_⟩
                               have n2_ : Aside0 (w.heap.size ≤ gb221) := ⟨h2_⟩
                               have n3_ : Aside0 (w.heap.size ≤ gb221) := ⟨h3_⟩
                               have n4_ : Aside0 (Below w.heap.size w w55) := ⟨h4_⟩
                               clear HO_8
                               clear HB
                               clear h0_ h1_ h2_ h3_ h4_
                               have HO_8 := n0_
                               have BK221 := n1_
                               have GW221 := n2_
                               have GE221 := n3_
                               have HB := n4_
                               clear n0_ n1_ n2_ n3_ n4_
                               have hHeld : w55.cell? (ad213.add (((ji44)).toNat * 3)) = some (.int .i64 ((rd_T26 l0 (ji44)).f0)) ∧ w55.cell? ⟨(ad213.add (((ji44)).toNat * 3)).block, (ad213.add (((ji44)).toNat * 3)).off + 1, none⟩ = some (.int .i64 ((rd_T26 l0 (ji44)).f1)) ∧ w55.cell? ⟨(ad213.add (((ji44)).toNat * 3)).block, (ad213.add (((ji44)).toNat * 3)).off + 2, none⟩ = some (.int .i64 ((rd_T26 l0 (ji44)).f2)) ∧ w55.cell? (ad213.add ((x12_3).toNat * 3)) = some (.int .i64 ((rd_T26 l0 x12_3).f0)) ∧ w55.cell? ⟨(ad213.add ((x12_3).toNat * 3)).block, (ad213.add ((x12_3).toNat * 3)).off + 1, none⟩ = some (.int .i64 ((rd_T26 l0 x12_3).f1)) ∧ w55.cell? ⟨(ad213.add ((x12_3).toNat * 3)).block, (ad213.add ((x12_3).toNat * 3)).off + 2, none⟩ = some (.int .i64 ((rd_T26 l0 x12_3).f2)) := hS_
                               refine norm_ (a' := ?_) ?_ ?_
                               rotate_left
                               ·simp only [putAll, Act.put, List.setIfInBounds_toArray, List.set_cons_zero, List.set_cons_succ]
                                rfl
                               refine two_ (i := 5) (j := 12) (Ni := some 89) (Nj := some 14) zb5_33 #[true, true, true, true, true, false, true, true, true, true, false, true, true, false, false] rfl rfl rfl rfl (two_of HT_.out (by kernel_rfl)) (by decide) (by decide) (fun K hK => ?_) (fun K hK => ?_)
                               ·skip
                                refine goes_ Try.func6 (by kernel_rfl) rfl #[.agg #[.int .i64 ((rd_T26 l0 (ji44)).f0), .int .i64 ((rd_T26 l0 (ji44)).f1), .int .i64 ((rd_T26 l0 (ji44)).f2)]] (by rfl) rfl rfl (by (try simp only [List.map_toArray, List.map_cons, List.map_nil]); first | done | (simp only [hji44]; rfl) | rfl | (simp only [List.length_drop, List.length_take]; rfl)) ?_
                                with_reducible refine (lodestonelaw25_few.calls ((rd_T26 l0 (ji44)).f0) ((rd_T26 l0 (ji44)).f1) ((rd_T26 l0 (ji44)).f2) t214 t215 t216 _ A47.out).mono ?_
                                rintro e w56 ⟨rfl, hb⟩
                                refine ⟨_, rfl, ?_⟩
                                have n0_ := Aside0.mk (Kd.R_below (by (with_reducible repeat (first | apply Kd.R_alloc | apply Kd.R_drewN | apply Kd.R_drew)); exact HO_8.out) hb)
                                have n1_ := Aside0.mk (blk_below (g := gb221) (o := .cells #[.int .i64 0, .int .i64 0, .int .i64 0] 26 (0, 0)) (by (with_reducible repeat (first | refine blk_drewN ?_ _ | refine blk_drew ?_ | refine blk_alloc ?_ _)); exact BK221.out) hb)
                                have n2_ := Aside0.mk (below_step (by repeat (first | (with_reducible first | exact HB.out | apply below_alloc | apply pw_below_drewN | apply below_drew1 | refine below_set ?_ GE221.out) | exact HB.out)) hb)
                                clear HO_8
                                clear BK221
                                clear HB
                                have HO_8 := n0_
                                have BK221 := n1_
                                have HB := n2_
                                clear n0_ n1_ n2_
                                (try clear hb)
                                (try clear hb2)
                                (try clear hk)
                                (try clear hi)
                                refine hK.out _ _ ⟨((HB.out.cell (World.block_lt_of_cell? w _ hw213_0)).trans hw213_0), ((HB.out.cell (World.block_lt_of_cell? w _ hw213_1)).trans hw213_1), ((HB.out.cell (World.block_lt_of_cell? w _ hw213_2)).trans hw213_2), ((HB.out.cell (World.block_lt_of_cell? w _ hw217_0)).trans hw217_0), ((HB.out.cell (World.block_lt_of_cell? w _ hw217_1)).trans hw217_1), ((HB.out.cell (World.block_lt_of_cell? w _ hw217_2)).trans hw217_2)⟩ (fun hHeld => ?_)
                                clear hK K
                                refine norm_ (a' := ?_) ?_ ?_
                                rotate_left
                                ·show Act.put _ (some 89) _ = _
                                 simp only [Act.put, List.setIfInBounds_toArray, List.set_cons_zero, List.set_cons_succ, i64_w, i32_w]
                                 rfl
                                exact norm_ (by first | (simp only [putAll, Act.put, List.setIfInBounds_toArray, List.set_cons_zero, List.set_cons_succ]; done) | (simp only [putAll, Act.put, List.setIfInBounds_toArray, List.set_cons_zero, List.set_cons_succ]; rfl)) (hJ5_11 (gb221) _ ⟨hHeld, (by (with_reducible repeat (first | apply Kd.R_alloc | apply Kd.R_drewN | apply Kd.R_drew)); exact HO_8.out), (by (with_reducible repeat (first | refine blk_drewN ?_ _ | refine blk_drew ?_ | refine blk_alloc ?_ _)); exact BK221.out), GW221.out, GE221.out, (by repeat (first | (with_reducible first | exact HB.out | apply below_alloc | apply pw_below_drewN | apply below_drew1 | refine below_set ?_ GE221.out) | exact HB.out))⟩)
                               ·skip
                                refine box_step ?hg (N := 14) ?hd (cs := #[.int .i64 0, .int .i64 0, .int .i64 0]) (t := 26) ?hr ?_; (case hd => rfl); (case hg => rfl); (case hr => first | (go_simp; done) | (go_simp; rfl))
                                intro gb222 hg w56 hbox hb
                                have n0_ := Aside0.mk (Kd.R_below (Kd.R_elderB (by (with_reducible repeat (first | apply Kd.R_alloc | apply Kd.R_drewN | apply Kd.R_drew)); exact HO_8.out) gb222 (Nat.le_of_eq hg.symm)) hb)
                                have n1_ := Aside0.mk (blk_below (g := gb221) (o := .cells #[.int .i64 0, .int .i64 0, .int .i64 0] 26 (0, 0)) (by (with_reducible repeat (first | refine blk_drewN ?_ _ | refine blk_drew ?_ | refine blk_alloc ?_ _)); exact BK221.out) hb)
                                have n2_ := Aside0.mk (below_step (by repeat (first | (with_reducible first | exact HB.out | apply below_alloc | apply pw_below_drewN | apply below_drew1 | refine below_set ?_ GE221.out) | exact HB.out)) hb)
                                have n3_ := Aside0.mk (hbox)
                                have n4_ := Aside0.mk ((by rw [hg]; exact (below_size (by repeat (first | (with_reducible first | exact HB.out | apply below_alloc | apply pw_below_drewN | apply below_drew1 | refine below_set ?_ GE221.out) | exact HB.out))) : w.heap.size ≤ gb222))
                                have n5_ := Aside0.mk ((by rw [hg]; exact (below_size (by repeat (first | (with_reducible first | exact HB.out | apply below_alloc | apply pw_below_drewN | apply below_drew1 | refine below_set ?_ GE221.out) | exact HB.out))) : w.heap.size ≤ gb222))
                                have n6_ := Aside0.mk ((by rw [hg]; exact Nat.ne_of_lt (blk_lt (g := gb221) (o := .cells #[.int .i64 0, .int .i64 0, .int .i64 0] 26 (0, 0)) (by (with_reducible repeat (first | refine blk_drewN ?_ _ | refine blk_drew ?_ | refine blk_alloc ?_ _)); exact BK221.out)) : gb221 ≠ gb222))
                                have n7_ := Aside0.mk ((by rw [hg]; exact Nat.ne_of_gt (blk_lt (g := gb221) (o := .cells #[.int .i64 0, .int .i64 0, .int .i64 0] 26 (0, 0)) (by (with_reducible repeat (first | refine blk_drewN ?_ _ | refine blk_drew ?_ | refine blk_alloc ?_ _)); exact BK221.out)) : gb222 ≠ gb221))
                                clear HO_8
                                clear BK221
                                clear HB
                                have HO_8 := n0_
                                have BK221 := n1_
                                have HB := n2_
                                have BK222 := n3_
                                have GW222 := n4_
                                have GE222 := n5_
                                have NB221_222 := n6_
                                have NB222_221 := n7_
                                clear n0_ n1_ n2_ n3_ n4_ n5_ n6_ n7_
                                clear hb hbox hg
                                refine hK.out _ _ ⟨((HB.out.cell (World.block_lt_of_cell? w _ hw213_0)).trans hw213_0), ((HB.out.cell (World.block_lt_of_cell? w _ hw213_1)).trans hw213_1), ((HB.out.cell (World.block_lt_of_cell? w _ hw213_2)).trans hw213_2), ((HB.out.cell (World.block_lt_of_cell? w _ hw217_0)).trans hw217_0), ((HB.out.cell (World.block_lt_of_cell? w _ hw217_1)).trans hw217_1), ((HB.out.cell (World.block_lt_of_cell? w _ hw217_2)).trans hw217_2)⟩ (fun hHeld => ?_)
                                clear hK K
                                refine norm_ (a' := ?_) ?_ ?_
                                rotate_left
                                ·show Act.put _ (some 14) _ = _
                                 simp only [Act.put, List.setIfInBounds_toArray, List.set_cons_zero, List.set_cons_succ, i64_w, i32_w]
                                 rfl
                                exact norm_ (by first | (simp only [putAll, Act.put, List.setIfInBounds_toArray, List.set_cons_zero, List.set_cons_succ]; done) | (simp only [putAll, Act.put, List.setIfInBounds_toArray, List.set_cons_zero, List.set_cons_succ]; rfl)) (hJ11_12 (gb221, gb222) _ ⟨hHeld, (by (with_reducible repeat (first | apply Kd.R_alloc | apply Kd.R_drewN | apply Kd.R_drew)); exact HO_8.out), (by (with_reducible repeat (first | refine blk_drewN ?_ _ | refine blk_drew ?_ | refine blk_alloc ?_ _)); exact BK221.out), (by (with_reducible repeat (first | refine blk_drewN ?_ _ | refine blk_drew ?_ | refine blk_alloc ?_ _)); exact BK222.out), GW221.out, GE221.out, NB222_221.out, NB221_222.out, GW222.out, GE222.out, (by repeat (first | (with_reducible first | exact HB.out | apply below_alloc | apply pw_below_drewN | apply below_drew1 | refine below_set ?_ GE221.out | refine below_set ?_ GE222.out) | exact HB.out))⟩)
                             ·skip
                              rintro _ w55 ⟨hS_, h0_, h1_⟩
                              have n0_ : Aside0 (Kd.R k26 26 w55 w.heap.size (fun _ => True) v206 t204) := ⟨h0_⟩
                              have n1_ : Aside0 (Below w.heap.size w w55) := ⟨h1_⟩
                              clear HO_8
                              clear HB
                              clear h0_ h1_
                              have HO_8 := n0_
                              have HB := n1_
                              clear n0_ n1_
                              have hHeld : w55.cell? (ad213.add (((ji44)).toNat * 3)) = some (.int .i64 ((rd_T26 l0 (ji44)).f0)) ∧ w55.cell? ⟨(ad213.add (((ji44)).toNat * 3)).block, (ad213.add (((ji44)).toNat * 3)).off + 1, none⟩ = some (.int .i64 ((rd_T26 l0 (ji44)).f1)) ∧ w55.cell? ⟨(ad213.add (((ji44)).toNat * 3)).block, (ad213.add (((ji44)).toNat * 3)).off + 2, none⟩ = some (.int .i64 ((rd_T26 l0 (ji44)).f2)) ∧ w55.cell? (ad213.add ((x12_3).toNat * 3)) = some (.int .i64 ((rd_T26 l0 x12_3).f0)) ∧ w55.cell? ⟨(ad213.add ((x12_3).toNat * 3)).block, (ad213.add ((x12_3).toNat * 3)).off + 1, none⟩ = some (.int .i64 ((rd_T26 l0 x12_3).f1)) ∧ w55.cell? ⟨(ad213.add ((x12_3).toNat * 3)).block, (ad213.add ((x12_3).toNat * 3)).off + 2, none⟩ = some (.int .i64 ((rd_T26 l0 x12_3).f2)) := hS_
                              refine norm_ (a' := ?_) ?_ ?_
                              rotate_left
                              ·simp only [putAll, Act.put, List.setIfInBounds_toArray, List.set_cons_zero, List.set_cons_succ]
                               rfl
                              refine three_ (i := 10) (j := 11) (k := 12) (Ni := some 94) (Nj := some 13) (Nk := some 14) zb5_32 #[true, true, true, true, true, true, true, true, true, true, false, true, false, false, false] #[true, true, true, true, true, true, true, true, true, true, false, false, true, false, false] rfl rfl rfl rfl rfl rfl (three_of HT_.out (by kernel_rfl)) (by decide) (by decide) (by decide) (fun K hK => ?_) (fun K hK => ?_) (fun K hK => ?_)
                              ·skip
                               refine goes_ Try.func6 (by kernel_rfl) rfl #[.agg #[.int .i64 ((rd_T26 l0 x12_3).f0), .int .i64 ((rd_T26 l0 x12_3).f1), .int .i64 ((rd_T26 l0 x12_3).f2)]] (by rfl) rfl rfl (by (try simp only [List.map_toArray, List.map_cons, List.map_nil]); first | done | rfl | (simp only [List.length_drop, List.length_take]; rfl)) ?_
                               with_reducible refine (lodestonelaw25_few.calls ((rd_T26 l0 x12_3).f0) ((rd_T26 l0 x12_3).f1) ((rd_T26 l0 x12_3).f2) t218 t219 t220 _ A50.out).mono ?_
                               rintro e w56 ⟨rfl, hb⟩
                               refine ⟨_, rfl, ?_⟩
                               have n0_ := Aside0.mk (Kd.R_below (by (with_reducible repeat (first | apply Kd.R_alloc | apply Kd.R_drewN | apply Kd.R_drew)); exact HO_8.out) hb)
                               have n1_ := Aside0.mk (below_step (by repeat (first | (with_reducible first | exact HB.out | apply below_alloc | apply pw_below_drewN | apply below_drew1) | exact HB.out)) hb)
                               clear HO_8
                               clear HB
                               have HO_8 := n0_
                               have HB := n1_
                               clear n0_ n1_
                               (try clear hb)
                               (try clear hb2)
                               (try clear hk)
                               (try clear hi)
                               refine hK.out _ _ ⟨((HB.out.cell (World.block_lt_of_cell? w _ hw213_0)).trans hw213_0), ((HB.out.cell (World.block_lt_of_cell? w _ hw213_1)).trans hw213_1), ((HB.out.cell (World.block_lt_of_cell? w _ hw213_2)).trans hw213_2), ((HB.out.cell (World.block_lt_of_cell? w _ hw217_0)).trans hw217_0), ((HB.out.cell (World.block_lt_of_cell? w _ hw217_1)).trans hw217_1), ((HB.out.cell (World.block_lt_of_cell? w _ hw217_2)).trans hw217_2)⟩ (fun hHeld => ?_)
                               clear hK K
                               refine norm_ (a' := ?_) ?_ ?_
                               rotate_left
                               ·show Act.put _ (some 94) _ = _
                                simp only [Act.put, List.setIfInBounds_toArray, List.set_cons_zero, List.set_cons_succ, i64_w, i32_w]
                                rfl
                               exact norm_ (by first | (simp only [putAll, Act.put, List.setIfInBounds_toArray, List.set_cons_zero, List.set_cons_succ]; done) | (simp only [putAll, Act.put, List.setIfInBounds_toArray, List.set_cons_zero, List.set_cons_succ]; rfl)) (hJ5_10 () _ ⟨hHeld, (by (with_reducible repeat (first | apply Kd.R_alloc | apply Kd.R_drewN | apply Kd.R_drew)); exact HO_8.out), (by repeat (first | (with_reducible first | exact HB.out | apply below_alloc | apply pw_below_drewN | apply below_drew1) | exact HB.out))⟩)
                              ·skip
                               refine box_step ?hg (N := 13) ?hd (cs := #[.int .i64 0, .int .i64 0, .int .i64 0]) (t := 26) ?hr ?_; (case hd => rfl); (case hg => rfl); (case hr => first | (go_simp; done) | (go_simp; rfl))
                               intro gb221 hg w56 hbox hb
                               have n0_ := Aside0.mk (Kd.R_below (Kd.R_elderB (by (with_reducible repeat (first | apply Kd.R_alloc | apply Kd.R_drewN | apply Kd.R_drew)); exact HO_8.out) gb221 (Nat.le_of_eq hg.symm)) hb)
                               have n1_ := Aside0.mk (below_step (by repeat (first | (with_reducible first | exact HB.out | apply below_alloc | apply pw_below_drewN | apply below_drew1) | exact HB.out)) hb)
                               have n2_ := Aside0.mk (hbox)
                               have n3_ := Aside0.mk ((by rw [hg]; exact (below_size (by repeat (first | (with_reducible first | exact HB.out | apply below_alloc | apply pw_below_drewN | apply below_drew1) | exact HB.out))) : w.heap.size ≤ gb221))
                               have n4_ := Aside0.mk ((by rw [hg]; exact (below_size (by repeat (first | (with_reducible first | exact HB.out | apply below_alloc | apply pw_below_drewN | apply below_drew1) | exact HB.out))) : w.heap.size ≤ gb221))
                               clear HO_8
                               clear HB
                               have HO_8 := n0_
                               have HB := n1_
                               have BK221 := n2_
                               have GW221 := n3_
                               have GE221 := n4_
                               clear n0_ n1_ n2_ n3_ n4_
                               clear hb hbox hg
                               refine hK.out _ _ ⟨((HB.out.cell (World.block_lt_of_cell? w _ hw213_0)).trans hw213_0), ((HB.out.cell (World.block_lt_of_cell? w _ hw213_1)).trans hw213_1), ((HB.out.cell (World.block_lt_of_cell? w _ hw213_2)).trans hw213_2), ((HB.out.cell (World.block_lt_of_cell? w _ hw217_0)).trans hw217_0), ((HB.out.cell (World.block_lt_of_cell? w _ hw217_1)).trans hw217_1), ((HB.out.cell (World.block_lt_of_cell? w _ hw217_2)).trans hw217_2)⟩ (fun hHeld => ?_)
                               clear hK K
                               refine norm_ (a' := ?_) ?_ ?_
                               rotate_left
                               ·show Act.put _ (some 13) _ = _
                                simp only [Act.put, List.setIfInBounds_toArray, List.set_cons_zero, List.set_cons_succ, i64_w, i32_w]
                                rfl
                               exact norm_ (by first | (simp only [putAll, Act.put, List.setIfInBounds_toArray, List.set_cons_zero, List.set_cons_succ]; done) | (simp only [putAll, Act.put, List.setIfInBounds_toArray, List.set_cons_zero, List.set_cons_succ]; rfl)) (hJ5_11 (gb221) _ ⟨hHeld, (by (with_reducible repeat (first | apply Kd.R_alloc | apply Kd.R_drewN | apply Kd.R_drew)); exact Kd.R_mono HO_8.out (fun _ hk => hk.2)), (by (with_reducible repeat (first | refine blk_drewN ?_ _ | refine blk_drew ?_ | refine blk_alloc ?_ _)); exact BK221.out), GW221.out, GE221.out, (by repeat (first | (with_reducible first | exact HB.out | apply below_alloc | apply pw_below_drewN | apply below_drew1 | refine below_set ?_ GE221.out) | exact HB.out))⟩)
                              ·skip
                               refine box_step ?hg (N := 14) ?hd (cs := #[.int .i64 0, .int .i64 0, .int .i64 0]) (t := 26) ?hr ?_; (case hd => rfl); (case hg => rfl); (case hr => first | (go_simp; done) | (go_simp; rfl))
                               intro gb222 hg w56 hbox hb
                               have n0_ := Aside0.mk (Kd.R_below (Kd.R_elderB (by (with_reducible repeat (first | apply Kd.R_alloc | apply Kd.R_drewN | apply Kd.R_drew)); exact HO_8.out) gb222 (Nat.le_of_eq hg.symm)) hb)
                               have n1_ := Aside0.mk (below_step (by repeat (first | (with_reducible first | exact HB.out | apply below_alloc | apply pw_below_drewN | apply below_drew1) | exact HB.out)) hb)
                               have n2_ := Aside0.mk (hbox)
                               have n3_ := Aside0.mk ((by rw [hg]; exact (below_size (by repeat (first | (with_reducible first | exact HB.out | apply below_alloc | apply pw_below_drewN | apply below_drew1) | exact HB.out))) : w.heap.size ≤ gb222))
                               have n4_ := Aside0.mk ((by rw [hg]; exact (below_size (by repeat (first | (with_reducible first | exact HB.out | apply below_alloc | apply pw_below_drewN | apply below_drew1) | exact HB.out))) : w.heap.size ≤ gb222))
                               clear HO_8
                               clear HB
                               have HO_8 := n0_
                               have HB := n1_
                               have BK222 := n2_
                               have GW222 := n3_
                               have GE222 := n4_
                               clear n0_ n1_ n2_ n3_ n4_
                               clear hb hbox hg
                               refine hK.out _ _ ⟨((HB.out.cell (World.block_lt_of_cell? w _ hw213_0)).trans hw213_0), ((HB.out.cell (World.block_lt_of_cell? w _ hw213_1)).trans hw213_1), ((HB.out.cell (World.block_lt_of_cell? w _ hw213_2)).trans hw213_2), ((HB.out.cell (World.block_lt_of_cell? w _ hw217_0)).trans hw217_0), ((HB.out.cell (World.block_lt_of_cell? w _ hw217_1)).trans hw217_1), ((HB.out.cell (World.block_lt_of_cell? w _ hw217_2)).trans hw217_2)⟩ (fun hHeld => ?_)
                               clear hK K
                               refine norm_ (a' := ?_) ?_ ?_
                               rotate_left
                               ·show Act.put _ (some 14) _ = _
                                simp only [Act.put, List.setIfInBounds_toArray, List.set_cons_zero, List.set_cons_succ, i64_w, i32_w]
                                rfl
                               exact norm_ (by first | (simp only [putAll, Act.put, List.setIfInBounds_toArray, List.set_cons_zero, List.set_cons_succ]; done) | (simp only [putAll, Act.put, List.setIfInBounds_toArray, List.set_cons_zero, List.set_cons_succ]; rfl)) (hJ5_12 (gb222) _ ⟨hHeld, (by (with_reducible repeat (first | apply Kd.R_alloc | apply Kd.R_drewN | apply Kd.R_drew)); exact Kd.R_mono HO_8.out (fun _ hk => hk.2)), (by (with_reducible repeat (first | refine blk_drewN ?_ _ | refine blk_drew ?_ | refine blk_alloc ?_ _)); exact BK222.out), GW222.out, GE222.out, (by repeat (first | (with_reducible first | exact HB.out | apply below_alloc | apply pw_below_drewN | apply below_drew1 | refine below_set ?_ GE222.out) | exact HB.out))⟩)
                            ·skip
                             rintro ⟨gb221, gb222⟩ w56 ⟨hS_, h0_, h1_, h2_, h3_, h4_, h5_, h6_, h7_, h8_, h9_⟩
                             have n0_ : Aside0 (Kd.R k26 26 w56 w.heap.size (fun k_ => k_ ≠ gb221 ∧ k_ ≠ gb222) v206 t204) := ⟨h0_⟩
                             have n1_ : Aside0 (w56.heap[gb221]? = some (.cells #[.int .i64 0, .int .i64 0, .int .i64 0] 26 (0, 0))) := ⟨h1_⟩
                             have n2_ : Aside0 (w56.heap[gb222]? = some (.cells #[.int .i64 0, .int .i64 0, .int .i64 0] 26 (0, 0))) := ⟨h2_⟩
                             have n3_ : Aside0 (w.heap.size ≤ gb221) := ⟨h3_⟩
                             have n4_ : Aside0 (w.heap.size ≤ gb221) := ⟨h4_⟩
                             have n5_ : Aside0 (gb222 ≠ gb221) := ⟨h5_⟩
                             have n6_ : Aside0 (gb221 ≠ gb222) := ⟨h6_⟩
                             have n7_ : Aside0 (w.heap.size ≤ gb222) := ⟨h7_⟩
                             have n8_ : Aside0 (w.heap.size ≤ gb222) := ⟨h8_⟩
                             have n9_ : Aside0 (Below w.heap.size w w56) := ⟨h9_⟩
                             clear HO_8
                             clear HB
                             clear h0_ h1_ h2_ h3_ h4_ h5_ h6_ h7_ h8_ h9_
                             have HO_8 := n0_
                             have BK221 := n1_
                             have BK222 := n2_
                             have GW221 := n3_
                             have GE221 := n4_
                             have NB222_221 := n5_
                             have NB221_222 := n6_
                             have GW222 := n7_
                             have GE222 := n8_
                             have HB := n9_
                             clear n0_ n1_ n2_ n3_ n4_ n5_ n6_ n7_ n8_ n9_
                             have hHeld : w56.cell? (ad213.add (((ji44)).toNat * 3)) = some (.int .i64 ((rd_T26 l0 (ji44)).f0)) ∧ w56.cell? ⟨(ad213.add (((ji44)).toNat * 3)).block, (ad213.add (((ji44)).toNat * 3)).off + 1, none⟩ = some (.int .i64 ((rd_T26 l0 (ji44)).f1)) ∧ w56.cell? ⟨(ad213.add (((ji44)).toNat * 3)).block, (ad213.add (((ji44)).toNat * 3)).off + 2, none⟩ = some (.int .i64 ((rd_T26 l0 (ji44)).f2)) ∧ w56.cell? (ad213.add ((x12_3).toNat * 3)) = some (.int .i64 ((rd_T26 l0 x12_3).f0)) ∧ w56.cell? ⟨(ad213.add ((x12_3).toNat * 3)).block, (ad213.add ((x12_3).toNat * 3)).off + 1, none⟩ = some (.int .i64 ((rd_T26 l0 x12_3).f1)) ∧ w56.cell? ⟨(ad213.add ((x12_3).toNat * 3)).block, (ad213.add ((x12_3).toNat * 3)).off + 2, none⟩ = some (.int .i64 ((rd_T26 l0 x12_3).f2)) := hS_
                             refine norm_ (a' := ?_) ?_ ?_
                             rotate_left
                             ·simp only [putAll, Act.put, List.setIfInBounds_toArray, List.set_cons_zero, List.set_cons_succ]
                              rfl
                             refine one_ (i := 5) (N := some 89) zb5_31 rfl rfl (one_of HT_.out (by kernel_rfl)) (by decide) (fun K hK => ?_)
                             refine goes_ Try.func6 (by kernel_rfl) rfl #[.agg #[.int .i64 ((rd_T26 l0 (ji44)).f0), .int .i64 ((rd_T26 l0 (ji44)).f1), .int .i64 ((rd_T26 l0 (ji44)).f2)]] (by rfl) rfl rfl (by (try simp only [List.map_toArray, List.map_cons, List.map_nil]); first | done | (simp only [hji44]; rfl) | rfl | (simp only [List.length_drop, List.length_take]; rfl)) ?_
                             with_reducible refine (lodestonelaw25_few.calls ((rd_T26 l0 (ji44)).f0) ((rd_T26 l0 (ji44)).f1) ((rd_T26 l0 (ji44)).f2) t214 t215 t216 _ A47.out).mono ?_
                             rintro e w57 ⟨rfl, hb⟩
                             refine ⟨_, rfl, ?_⟩
                             have n0_ := Aside0.mk (Kd.R_below (by (with_reducible repeat (first | apply Kd.R_alloc | apply Kd.R_drewN | apply Kd.R_drew)); exact HO_8.out) hb)
                             have n1_ := Aside0.mk (blk_below (g := gb221) (o := .cells #[.int .i64 0, .int .i64 0, .int .i64 0] 26 (0, 0)) (by (with_reducible repeat (first | refine blk_drewN ?_ _ | refine blk_drew ?_ | refine blk_alloc ?_ _)); exact BK221.out) hb)
                             have n2_ := Aside0.mk (blk_below (g := gb222) (o := .cells #[.int .i64 0, .int .i64 0, .int .i64 0] 26 (0, 0)) (by (with_reducible repeat (first | refine blk_drewN ?_ _ | refine blk_drew ?_ | refine blk_alloc ?_ _)); exact BK222.out) hb)
                             have n3_ := Aside0.mk (below_step (by repeat (first | (with_reducible first | exact HB.out | apply below_alloc | apply pw_below_drewN | apply below_drew1 | refine below_set ?_ GE221.out | refine below_set ?_ GE222.out) | exact HB.out)) hb)
                             clear HO_8
                             clear BK221
                             clear BK222
                             clear HB
                             have HO_8 := n0_
                             have BK221 := n1_
                             have BK222 := n2_
                             have HB := n3_
                             clear n0_ n1_ n2_ n3_
                             (try clear hb)
                             (try clear hb2)
                             (try clear hk)
                             (try clear hi)
                             refine hK.out _ _ ⟨((HB.out.cell (World.block_lt_of_cell? w _ hw213_0)).trans hw213_0), ((HB.out.cell (World.block_lt_of_cell? w _ hw213_1)).trans hw213_1), ((HB.out.cell (World.block_lt_of_cell? w _ hw213_2)).trans hw213_2), ((HB.out.cell (World.block_lt_of_cell? w _ hw217_0)).trans hw217_0), ((HB.out.cell (World.block_lt_of_cell? w _ hw217_1)).trans hw217_1), ((HB.out.cell (World.block_lt_of_cell? w _ hw217_2)).trans hw217_2)⟩ (fun hHeld => ?_)
                             clear hK K
                             refine norm_ (a' := ?_) ?_ ?_
                             rotate_left
                             ·show Act.put _ (some 89) _ = _
                              simp only [Act.put, List.setIfInBounds_toArray, List.set_cons_zero, List.set_cons_succ, i64_w, i32_w]
                              rfl
                             exact norm_ (by first | (simp only [putAll, Act.put, List.setIfInBounds_toArray, List.set_cons_zero, List.set_cons_succ]; done) | (simp only [putAll, Act.put, List.setIfInBounds_toArray, List.set_cons_zero, List.set_cons_succ]; rfl)) (hJ5_11_12 (gb221, gb222) _ ⟨hHeld, (by (with_reducible repeat (first | apply Kd.R_alloc | apply Kd.R_drewN | apply Kd.R_drew)); exact HO_8.out), (by (with_reducible repeat (first | refine blk_drewN ?_ _ | refine blk_drew ?_ | refine blk_alloc ?_ _)); exact BK221.out), (by (with_reducible repeat (first | refine blk_drewN ?_ _ | refine blk_drew ?_ | refine blk_alloc ?_ _)); exact BK222.out), GW221.out, GE221.out, NB222_221.out, NB221_222.out, GW222.out, GE222.out, (by repeat (first | (with_reducible first | exact HB.out | apply below_alloc | apply pw_below_drewN | apply below_drew1 | refine below_set ?_ GE221.out | refine below_set ?_ GE222.out) | exact HB.out))⟩)
                           ·skip
                            rintro gb222 w56 ⟨hS_, h0_, h1_, h2_, h3_, h4_⟩
                            have n0_ : Aside0 (Kd.R k26 26 w56 w.heap.size (fun k_ => k_ ≠ gb222) v206 t204) := ⟨h0_⟩
                            have n1_ : Aside0 (w56.heap[gb222]? = some (.cells #[.int .i64 0, .int .i64 0, .int .i64 0] 26 (0, 0))) := ⟨h1_⟩
                            have n2_ : Aside0 (w.heap.size ≤ gb222) := ⟨h2_⟩
                            have n3_ : Aside0 (w.heap.size ≤ gb222) := ⟨h3_⟩
                            have n4_ : Aside0 (Below w.heap.size w w56) := ⟨h4_⟩
                            clear HO_8
                            clear HB
                            clear h0_ h1_ h2_ h3_ h4_
                            have HO_8 := n0_
                            have BK222 := n1_
                            have GW222 := n2_
                            have GE222 := n3_
                            have HB := n4_
                            clear n0_ n1_ n2_ n3_ n4_
                            have hHeld : w56.cell? (ad213.add (((ji44)).toNat * 3)) = some (.int .i64 ((rd_T26 l0 (ji44)).f0)) ∧ w56.cell? ⟨(ad213.add (((ji44)).toNat * 3)).block, (ad213.add (((ji44)).toNat * 3)).off + 1, none⟩ = some (.int .i64 ((rd_T26 l0 (ji44)).f1)) ∧ w56.cell? ⟨(ad213.add (((ji44)).toNat * 3)).block, (ad213.add (((ji44)).toNat * 3)).off + 2, none⟩ = some (.int .i64 ((rd_T26 l0 (ji44)).f2)) ∧ w56.cell? (ad213.add ((x12_3).toNat * 3)) = some (.int .i64 ((rd_T26 l0 x12_3).f0)) ∧ w56.cell? ⟨(ad213.add ((x12_3).toNat * 3)).block, (ad213.add ((x12_3).toNat * 3)).off + 1, none⟩ = some (.int .i64 ((rd_T26 l0 x12_3).f1)) ∧ w56.cell? ⟨(ad213.add ((x12_3).toNat * 3)).block, (ad213.add ((x12_3).toNat * 3)).off + 2, none⟩ = some (.int .i64 ((rd_T26 l0 x12_3).f2)) := hS_
                            refine norm_ (a' := ?_) ?_ ?_
                            rotate_left
                            ·simp only [putAll, Act.put, List.setIfInBounds_toArray, List.set_cons_zero, List.set_cons_succ]
                             rfl
                            refine two_ (i := 10) (j := 11) (Ni := some 94) (Nj := some 13) zb5_30 #[true, true, true, true, true, true, true, true, true, true, false, true, true, false, false] rfl rfl rfl rfl (two_of HT_.out (by kernel_rfl)) (by decide) (by decide) (fun K hK => ?_) (fun K hK => ?_)
                            ·skip
                             refine goes_ Try.func6 (by kernel_rfl) rfl #[.agg #[.int .i64 ((rd_T26 l0 x12_3).f0), .int .i64 ((rd_T26 l0 x12_3).f1), .int .i64 ((rd_T26 l0 x12_3).f2)]] (by rfl) rfl rfl (by (try simp only [List.map_toArray, List.map_cons, List.map_nil]); first | done | rfl | (simp only [List.length_drop, List.length_take]; rfl)) ?_
                             with_reducible refine (lodestonelaw25_few.calls ((rd_T26 l0 x12_3).f0) ((rd_T26 l0 x12_3).f1) ((rd_T26 l0 x12_3).f2) t218 t219 t220 _ A50.out).mono ?_
                             rintro e w57 ⟨rfl, hb⟩
                             refine ⟨_, rfl, ?_⟩
                             have n0_ := Aside0.mk (Kd.R_below (by (with_reducible repeat (first | apply Kd.R_alloc | apply Kd.R_drewN | apply Kd.R_drew)); exact HO_8.out) hb)
                             have n1_ := Aside0.mk (blk_below (g := gb222) (o := .cells #[.int .i64 0, .int .i64 0, .int .i64 0] 26 (0, 0)) (by (with_reducible repeat (first | refine blk_drewN ?_ _ | refine blk_drew ?_ | refine blk_alloc ?_ _)); exact BK222.out) hb)
                             have n2_ := Aside0.mk (below_step (by repeat (first | (with_reducible first | exact HB.out | apply below_alloc | apply pw_below_drewN | apply below_drew1 | refine below_set ?_ GE222.out) | exact HB.out)) hb)
                             clear HO_8
                             clear BK222
                             clear HB
                             have HO_8 := n0_
                             have BK222 := n1_
                             have HB := n2_
                             clear n0_ n1_ n2_
                             (try clear hb)
                             (try clear hb2)
                             (try clear hk)
                             (try clear hi)
                             refine hK.out _ _ ⟨((HB.out.cell (World.block_lt_of_cell? w _ hw213_0)).trans hw213_0), ((HB.out.cell (World.block_lt_of_cell? w _ hw213_1)).trans hw213_1), ((HB.out.cell (World.block_lt_of_cell? w _ hw213_2)).trans hw213_2), ((HB.out.cell (World.block_lt_of_cell? w _ hw217_0)).trans hw217_0), ((HB.out.cell (World.block_lt_of_cell? w _ hw217_1)).trans hw217_1), ((HB.out.cell (World.block_lt_of_cell? w _ hw217_2)).trans hw217_2)⟩ (fun hHeld => ?_)
                             clear hK K
                             refine norm_ (a' := ?_) ?_ ?_
                             rotate_left
                             ·show Act.put _ (some 94) _ = _
                              simp only [Act.put, List.setIfInBounds_toArray, List.set_cons_zero, List.set_cons_succ, i64_w, i32_w]
                              rfl
                             exact norm_ (by first | (simp only [putAll, Act.put, List.setIfInBounds_toArray, List.set_cons_zero, List.set_cons_succ]; done) | (simp only [putAll, Act.put, List.setIfInBounds_toArray, List.set_cons_zero, List.set_cons_succ]; rfl)) (hJ5_10_12 (gb222) _ ⟨hHeld, (by (with_reducible repeat (first | apply Kd.R_alloc | apply Kd.R_drewN | apply Kd.R_drew)); exact HO_8.out), (by (with_reducible repeat (first | refine blk_drewN ?_ _ | refine blk_drew ?_ | refine blk_alloc ?_ _)); exact BK222.out), GW222.out, GE222.out, (by repeat (first | (with_reducible first | exact HB.out | apply below_alloc | apply pw_below_drewN | apply below_drew1 | refine below_set ?_ GE222.out) | exact HB.out))⟩)
                            ·skip
                             refine box_step ?hg (N := 13) ?hd (cs := #[.int .i64 0, .int .i64 0, .int .i64 0]) (t := 26) ?hr ?_; (case hd => rfl); (case hg => rfl); (case hr => first | (go_simp; done) | (go_simp; rfl))
                             intro gb221 hg w57 hbox hb
                             have n0_ := Aside0.mk (Kd.R_below (Kd.R_elderB (by (with_reducible repeat (first | apply Kd.R_alloc | apply Kd.R_drewN | apply Kd.R_drew)); exact HO_8.out) gb221 (Nat.le_of_eq hg.symm)) hb)
                             have n1_ := Aside0.mk (blk_below (g := gb222) (o := .cells #[.int .i64 0, .int .i64 0, .int .i64 0] 26 (0, 0)) (by (with_reducible repeat (first | refine blk_drewN ?_ _ | refine blk_drew ?_ | refine blk_alloc ?_ _)); exact BK222.out) hb)
                             have n2_ := Aside0.mk (below_step (by repeat (first | (with_reducible first | exact HB.out | apply below_alloc | apply pw_below_drewN | apply below_drew1 | refine below_set ?_ GE222.out) | exact HB.out)) hb)
                             have n3_ := Aside0.mk (hbox)
                             have n4_ := Aside0.mk ((by rw [hg]; exact (below_size (by repeat (first | (with_reducible first | exact HB.out | apply below_alloc | apply pw_below_drewN | apply below_drew1 | refine below_set ?_ GE222.out) | exact HB.out))) : w.heap.size ≤ gb221))
                             have n5_ := Aside0.mk ((by rw [hg]; exact (below_size (by repeat (first | (with_reducible first | exact HB.out | apply below_alloc | apply pw_below_drewN | apply below_drew1 | refine below_set ?_ GE222.out) | exact HB.out))) : w.heap.size ≤ gb221))
                             have n6_ := Aside0.mk ((by rw [hg]; exact Nat.ne_of_lt (blk_lt (g := gb222) (o := .cells #[.int .i64 0, .int .i64 0, .int .i64 0] 26 (0, 0)) (by (with_reducible repeat (first | refine blk_drewN ?_ _ | refine blk_drew ?_ | refine blk_alloc ?_ _)); exact BK222.out)) : gb222 ≠ gb221))
                             have n7_ := Aside0.mk ((by rw [hg]; exact Nat.ne_of_gt (blk_lt (g := gb222) (o := .cells #[.int .i64 0, .int .i64 0, .int .i64 0] 26 (0, 0)) (by (with_reducible repeat (first | refine blk_drewN ?_ _ | refine blk_drew ?_ | refine blk_alloc ?_ _)); exact BK222.out)) : gb221 ≠ gb222))
                             clear HO_8
                             clear BK222
                             clear HB
                             have HO_8 := n0_
                             have BK222 := n1_
                             have HB := n2_
                             have BK221 := n3_
                             have GW221 := n4_
                             have GE221 := n5_
                             have NB222_221 := n6_
                             have NB221_222 := n7_
                             clear n0_ n1_ n2_ n3_ n4_ n5_ n6_ n7_
                             clear hb hbox hg
                             refine hK.out _ _ ⟨((HB.out.cell (World.block_lt_of_cell? w _ hw213_0)).trans hw213_0), ((HB.out.cell (World.block_lt_of_cell? w _ hw213_1)).trans hw213_1), ((HB.out.cell (World.block_lt_of_cell? w _ hw213_2)).trans hw213_2), ((HB.out.cell (World.block_lt_of_cell? w _ hw217_0)).trans hw217_0), ((HB.out.cell (World.block_lt_of_cell? w _ hw217_1)).trans hw217_1), ((HB.out.cell (World.block_lt_of_cell? w _ hw217_2)).trans hw217_2)⟩ (fun hHeld => ?_)
                             clear hK K
                             refine norm_ (a' := ?_) ?_ ?_
                             rotate_left
                             ·show Act.put _ (some 13) _ = _
                              simp only [Act.put, List.setIfInBounds_toArray, List.set_cons_zero, List.set_cons_succ, i64_w, i32_w]
                              rfl
                             exact norm_ (by first | (simp only [putAll, Act.put, List.setIfInBounds_toArray, List.set_cons_zero, List.set_cons_succ]; done) | (simp only [putAll, Act.put, List.setIfInBounds_toArray, List.set_cons_zero, List.set_cons_succ]; rfl)) (hJ5_11_12 (gb221, gb222) _ ⟨hHeld, (by (with_reducible repeat (first | apply Kd.R_alloc | apply Kd.R_drewN | apply Kd.R_drew)); exact Kd.R_mono HO_8.out (fun _ hk => ⟨hk.2, hk.1⟩)), (by (with_reducible repeat (first | refine blk_drewN ?_ _ | refine blk_drew ?_ | refine blk_alloc ?_ _)); exact BK221.out), (by (with_reducible repeat (first | refine blk_drewN ?_ _ | refine blk_drew ?_ | refine blk_alloc ?_ _)); exact BK222.out), GW221.out, GE221.out, NB222_221.out, NB221_222.out, GW222.out, GE222.out, (by repeat (first | (with_reducible first | exact HB.out | apply below_alloc | apply pw_below_drewN | apply below_drew1 | refine below_set ?_ GE222.out | refine below_set ?_ GE221.out) | exact HB.out))⟩)
                          ·skip
                           rintro gb221 w56 ⟨hS_, h0_, h1_, h2_, h3_, h4_⟩
                           have n0_ : Aside0 (Kd.R k26 26 w56 w.heap.size (fun k_ => k_ ≠ gb221) v206 t204) := ⟨h0_⟩
                           have n1_ : Aside0 (w56.heap[gb221]? = some (.cells #[.int .i64 0, .int .i64 0, .int .i64 0] 26 (0, 0))) := ⟨h1_⟩
                           have n2_ : Aside0 (w.heap.size ≤ gb221) := ⟨h2_⟩
                           have n3_ : Aside0 (w.heap.size ≤ gb221) := ⟨h3_⟩
                           have n4_ : Aside0 (Below w.heap.size w w56) := ⟨h4_⟩
                           clear HO_8
                           clear HB
                           clear h0_ h1_ h2_ h3_ h4_
                           have HO_8 := n0_
                           have BK221 := n1_
                           have GW221 := n2_
                           have GE221 := n3_
                           have HB := n4_
                           clear n0_ n1_ n2_ n3_ n4_
                           have hHeld : w56.cell? (ad213.add (((ji44)).toNat * 3)) = some (.int .i64 ((rd_T26 l0 (ji44)).f0)) ∧ w56.cell? ⟨(ad213.add (((ji44)).toNat * 3)).block, (ad213.add (((ji44)).toNat * 3)).off + 1, none⟩ = some (.int .i64 ((rd_T26 l0 (ji44)).f1)) ∧ w56.cell? ⟨(ad213.add (((ji44)).toNat * 3)).block, (ad213.add (((ji44)).toNat * 3)).off + 2, none⟩ = some (.int .i64 ((rd_T26 l0 (ji44)).f2)) ∧ w56.cell? (ad213.add ((x12_3).toNat * 3)) = some (.int .i64 ((rd_T26 l0 x12_3).f0)) ∧ w56.cell? ⟨(ad213.add ((x12_3).toNat * 3)).block, (ad213.add ((x12_3).toNat * 3)).off + 1, none⟩ = some (.int .i64 ((rd_T26 l0 x12_3).f1)) ∧ w56.cell? ⟨(ad213.add ((x12_3).toNat * 3)).block, (ad213.add ((x12_3).toNat * 3)).off + 2, none⟩ = some (.int .i64 ((rd_T26 l0 x12_3).f2)) := hS_
                           refine norm_ (a' := ?_) ?_ ?_
                           rotate_left
                           ·simp only [putAll, Act.put, List.setIfInBounds_toArray, List.set_cons_zero, List.set_cons_succ]
                            rfl
                           refine two_ (i := 10) (j := 12) (Ni := some 94) (Nj := some 14) zb5_29 #[true, true, true, true, true, true, true, true, true, true, false, true, true, false, false] rfl rfl rfl rfl (two_of HT_.out (by kernel_rfl)) (by decide) (by decide) (fun K hK => ?_) (fun K hK => ?_)
                           ·skip
                            refine goes_ Try.func6 (by kernel_rfl) rfl #[.agg #[.int .i64 ((rd_T26 l0 x12_3).f0), .int .i64 ((rd_T26 l0 x12_3).f1), .int .i64 ((rd_T26 l0 x12_3).f2)]] (by rfl) rfl rfl (by (try simp only [List.map_toArray, List.map_cons, List.map_nil]); first | done | rfl | (simp only [List.length_drop, List.length_take]; rfl)) ?_
                            with_reducible refine (lodestonelaw25_few.calls ((rd_T26 l0 x12_3).f0) ((rd_T26 l0 x12_3).f1) ((rd_T26 l0 x12_3).f2) t218 t219 t220 _ A50.out).mono ?_
                            rintro e w57 ⟨rfl, hb⟩
                            refine ⟨_, rfl, ?_⟩
                            have n0_ := Aside0.mk (Kd.R_below (by (with_reducible repeat (first | apply Kd.R_alloc | apply Kd.R_drewN | apply Kd.R_drew)); exact HO_8.out) hb)
                            have n1_ := Aside0.mk (blk_below (g := gb221) (o := .cells #[.int .i64 0, .int .i64 0, .int .i64 0] 26 (0, 0)) (by (with_reducible repeat (first | refine blk_drewN ?_ _ | refine blk_drew ?_ | refine blk_alloc ?_ _)); exact BK221.out) hb)
                            have n2_ := Aside0.mk (below_step (by repeat (first | (with_reducible first | exact HB.out | apply below_alloc | apply pw_below_drewN | apply below_drew1 | refine below_set ?_ GE221.out) | exact HB.out)) hb)
                            clear HO_8
                            clear BK221
                            clear HB
                            have HO_8 := n0_
                            have BK221 := n1_
                            have HB := n2_
                            clear n0_ n1_ n2_
                            (try clear hb)
                            (try clear hb2)
                            (try clear hk)
                            (try clear hi)
                            refine hK.out _ _ ⟨((HB.out.cell (World.block_lt_of_cell? w _ hw213_0)).trans hw213_0), ((HB.out.cell (World.block_lt_of_cell? w _ hw213_1)).trans hw213_1), ((HB.out.cell (World.block_lt_of_cell? w _ hw213_2)).trans hw213_2), ((HB.out.cell (World.block_lt_of_cell? w _ hw217_0)).trans hw217_0), ((HB.out.cell (World.block_lt_of_cell? w _ hw217_1)).trans hw217_1), ((HB.out.cell (World.block_lt_of_cell? w _ hw217_2)).trans hw217_2)⟩ (fun hHeld => ?_)
                            clear hK K
                            refine norm_ (a' := ?_) ?_ ?_
                            rotate_left
                            ·show Act.put _ (some 94) _ = _
                             simp only [Act.put, List.setIfInBounds_toArray, List.set_cons_zero, List.set_cons_succ, i64_w, i32_w]
                             rfl
                            exact norm_ (by first | (simp only [putAll, Act.put, List.setIfInBounds_toArray, List.set_cons_zero, List.set_cons_succ]; done) | (simp only [putAll, Act.put, List.setIfInBounds_toArray, List.set_cons_zero, List.set_cons_succ]; rfl)) (hJ5_10_11 (gb221) _ ⟨hHeld, (by (with_reducible repeat (first | apply Kd.R_alloc | apply Kd.R_drewN | apply Kd.R_drew)); exact HO_8.out), (by (with_reducible repeat (first | refine blk_drewN ?_ _ | refine blk_drew ?_ | refine blk_alloc ?_ _)); exact BK221.out), GW221.out, GE221.out, (by repeat (first | (with_reducible first | exact HB.out | apply below_alloc | apply pw_below_drewN | apply below_drew1 | refine below_set ?_ GE221.out) | exact HB.out))⟩)
                           ·skip
                            refine box_step ?hg (N := 14) ?hd (cs := #[.int .i64 0, .int .i64 0, .int .i64 0]) (t := 26) ?hr ?_; (case hd => rfl); (case hg => rfl); (case hr => first | (go_simp; done) | (go_simp; rfl))
                            intro gb222 hg w57 hbox hb
                            have n0_ := Aside0.mk (Kd.R_below (Kd.R_elderB (by (with_reducible repeat (first | apply Kd.R_alloc | apply Kd.R_drewN | apply Kd.R_drew)); exact HO_8.out) gb222 (Nat.le_of_eq hg.symm)) hb)
                            have n1_ := Aside0.mk (blk_below (g := gb221) (o := .cells #[.int .i64 0, .int .i64 0, .int .i64 0] 26 (0, 0)) (by (with_reducible repeat (first | refine blk_drewN ?_ _ | refine blk_drew ?_ | refine blk_alloc ?_ _)); exact BK221.out) hb)
                            have n2_ := Aside0.mk (below_step (by repeat (first | (with_reducible first | exact HB.out | apply below_alloc | apply pw_below_drewN | apply below_drew1 | refine below_set ?_ GE221.out) | exact HB.out)) hb)
                            have n3_ := Aside0.mk (hbox)
                            have n4_ := Aside0.mk ((by rw [hg]; exact (below_size (by repeat (first | (with_reducible first | exact HB.out | apply below_alloc | apply pw_below_drewN | apply below_drew1 | refine below_set ?_ GE221.out) | exact HB.out))) : w.heap.size ≤ gb222))
                            have n5_ := Aside0.mk ((by rw [hg]; exact (below_size (by repeat (first | (with_reducible first | exact HB.out | apply below_alloc | apply pw_below_drewN | apply below_drew1 | refine below_set ?_ GE221.out) | exact HB.out))) : w.heap.size ≤ gb222))
                            have n6_ := Aside0.mk ((by rw [hg]; exact Nat.ne_of_lt (blk_lt (g := gb221) (o := .cells #[.int .i64 0, .int .i64 0, .int .i64 0] 26 (0, 0)) (by (with_reducible repeat (first | refine blk_drewN ?_ _ | refine blk_drew ?_ | refine blk_alloc ?_ _)); exact BK221.out)) : gb221 ≠ gb222))
                            have n7_ := Aside0.mk ((by rw [hg]; exact Nat.ne_of_gt (blk_lt (g := gb221) (o := .cells #[.int .i64 0, .int .i64 0, .int .i64 0] 26 (0, 0)) (by (with_reducible repeat (first | refine blk_drewN ?_ _ | refine blk_drew ?_ | refine blk_alloc ?_ _)); exact BK221.out)) : gb222 ≠ gb221))
                            clear HO_8
                            clear BK221
                            clear HB
                            have HO_8 := n0_
                            have BK221 := n1_
                            have HB := n2_
                            have BK222 := n3_
                            have GW222 := n4_
                            have GE222 := n5_
                            have NB221_222 := n6_
                            have NB222_221 := n7_
                            clear n0_ n1_ n2_ n3_ n4_ n5_ n6_ n7_
                            clear hb hbox hg
                            refine hK.out _ _ ⟨((HB.out.cell (World.block_lt_of_cell? w _ hw213_0)).trans hw213_0), ((HB.out.cell (World.block_lt_of_cell? w _ hw213_1)).trans hw213_1), ((HB.out.cell (World.block_lt_of_cell? w _ hw213_2)).trans hw213_2), ((HB.out.cell (World.block_lt_of_cell? w _ hw217_0)).trans hw217_0), ((HB.out.cell (World.block_lt_of_cell? w _ hw217_1)).trans hw217_1), ((HB.out.cell (World.block_lt_of_cell? w _ hw217_2)).trans hw217_2)⟩ (fun hHeld => ?_)
                            clear hK K
                            refine norm_ (a' := ?_) ?_ ?_
                            rotate_left
                            ·show Act.put _ (some 14) _ = _
                             simp only [Act.put, List.setIfInBounds_toArray, List.set_cons_zero, List.set_cons_succ, i64_w, i32_w]
                             rfl
                            exact norm_ (by first | (simp only [putAll, Act.put, List.setIfInBounds_toArray, List.set_cons_zero, List.set_cons_succ]; done) | (simp only [putAll, Act.put, List.setIfInBounds_toArray, List.set_cons_zero, List.set_cons_succ]; rfl)) (hJ5_11_12 (gb221, gb222) _ ⟨hHeld, (by (with_reducible repeat (first | apply Kd.R_alloc | apply Kd.R_drewN | apply Kd.R_drew)); exact HO_8.out), (by (with_reducible repeat (first | refine blk_drewN ?_ _ | refine blk_drew ?_ | refine blk_alloc ?_ _)); exact BK221.out), (by (with_reducible repeat (first | refine blk_drewN ?_ _ | refine blk_drew ?_ | refine blk_alloc ?_ _)); exact BK222.out), GW221.out, GE221.out, NB222_221.out, NB221_222.out, GW222.out, GE222.out, (by repeat (first | (with_reducible first | exact HB.out | apply below_alloc | apply pw_below_drewN | apply below_drew1 | refine below_set ?_ GE221.out | refine below_set ?_ GE222.out) | exact HB.out))⟩)
                         ·skip
                          rintro _ w56 ⟨hS_, h0_, h1_⟩
                          have n0_ : Aside0 (Kd.R k26 26 w56 w.heap.size (fun _ => True) v206 t204) := ⟨h0_⟩
                          have n1_ : Aside0 (Below w.heap.size w w56) := ⟨h1_⟩
                          clear HO_8
                          clear HB
                          clear h0_ h1_
                          have HO_8 := n0_
                          have HB := n1_
                          clear n0_ n1_
                          have hHeld : w56.cell? (ad213.add (((ji44)).toNat * 3)) = some (.int .i64 ((rd_T26 l0 (ji44)).f0)) ∧ w56.cell? ⟨(ad213.add (((ji44)).toNat * 3)).block, (ad213.add (((ji44)).toNat * 3)).off + 1, none⟩ = some (.int .i64 ((rd_T26 l0 (ji44)).f1)) ∧ w56.cell? ⟨(ad213.add (((ji44)).toNat * 3)).block, (ad213.add (((ji44)).toNat * 3)).off + 2, none⟩ = some (.int .i64 ((rd_T26 l0 (ji44)).f2)) ∧ w56.cell? (ad213.add ((x12_3).toNat * 3)) = some (.int .i64 ((rd_T26 l0 x12_3).f0)) ∧ w56.cell? ⟨(ad213.add ((x12_3).toNat * 3)).block, (ad213.add ((x12_3).toNat * 3)).off + 1, none⟩ = some (.int .i64 ((rd_T26 l0 x12_3).f1)) ∧ w56.cell? ⟨(ad213.add ((x12_3).toNat * 3)).block, (ad213.add ((x12_3).toNat * 3)).off + 2, none⟩ = some (.int .i64 ((rd_T26 l0 x12_3).f2)) := hS_
                          refine norm_ (a' := ?_) ?_ ?_
                          rotate_left
                          ·simp only [putAll, Act.put, List.setIfInBounds_toArray, List.set_cons_zero, List.set_cons_succ]
                           rfl
                          refine two_ (i := 11) (j := 12) (Ni := some 13) (Nj := some 14) zb5_29 #[true, true, true, true, true, true, true, true, true, true, true, false, true, false, false] rfl rfl rfl rfl (two_of HT_.out (by kernel_rfl)) (by decide) (by decide) (fun K hK => ?_) (fun K hK => ?_)
                          ·skip
                           refine box_step ?hg (N := 13) ?hd (cs := #[.int .i64 0, .int .i64 0, .int .i64 0]) (t := 26) ?hr ?_; (case hd => rfl); (case hg => rfl); (case hr => first | (go_simp; done) | (go_simp; rfl))
                           intro gb221 hg w57 hbox hb
                           have n0_ := Aside0.mk (Kd.R_below (Kd.R_elderB (by (with_reducible repeat (first | apply Kd.R_alloc | apply Kd.R_drewN | apply Kd.R_drew)); exact HO_8.out) gb221 (Nat.le_of_eq hg.symm)) hb)
                           have n1_ := Aside0.mk (below_step (by repeat (first | (with_reducible first | exact HB.out | apply below_alloc | apply pw_below_drewN | apply below_drew1) | exact HB.out)) hb)
                           have n2_ := Aside0.mk (hbox)
                           have n3_ := Aside0.mk ((by rw [hg]; exact (below_size (by repeat (first | (with_reducible first | exact HB.out | apply below_alloc | apply pw_below_drewN | apply below_drew1) | exact HB.out))) : w.heap.size ≤ gb221))
                           have n4_ := Aside0.mk ((by rw [hg]; exact (below_size (by repeat (first | (with_reducible first | exact HB.out | apply below_alloc | apply pw_below_drewN | apply below_drew1) | exact HB.out))) : w.heap.size ≤ gb221))
                           clear HO_8
                           clear HB
                           have HO_8 := n0_
                           have HB := n1_
                           have BK221 := n2_
                           have GW221 := n3_
                           have GE221 := n4_
                           clear n0_ n1_ n2_ n3_ n4_
                           clear hb hbox hg
                           refine hK.out _ _ ⟨((HB.out.cell (World.block_lt_of_cell? w _ hw213_0)).trans hw213_0), ((HB.out.cell (World.block_lt_of_cell? w _ hw213_1)).trans hw213_1), ((HB.out.cell (World.block_lt_of_cell? w _ hw213_2)).trans hw213_2), ((HB.out.cell (World.block_lt_of_cell? w _ hw217_0)).trans hw217_0), ((HB.out.cell (World.block_lt_of_cell? w _ hw217_1)).trans hw217_1), ((HB.out.cell (World.block_lt_of_cell? w _ hw217_2)).trans hw217_2)⟩ (fun hHeld => ?_)
                           clear hK K
                           refine norm_ (a' := ?_) ?_ ?_
                           rotate_left
                           ·show Act.put _ (some 13) _ = _
                            simp only [Act.put, List.setIfInBounds_toArray, List.set_cons_zero, List.set_cons_succ, i64_w, i32_w]
                            rfl
                           exact norm_ (by first | (simp only [putAll, Act.put, List.setIfInBounds_toArray, List.set_cons_zero, List.set_cons_succ]; done) | (simp only [putAll, Act.put, List.setIfInBounds_toArray, List.set_cons_zero, List.set_cons_succ]; rfl)) (hJ5_10_11 (gb221) _ ⟨hHeld, (by (with_reducible repeat (first | apply Kd.R_alloc | apply Kd.R_drewN | apply Kd.R_drew)); exact Kd.R_mono HO_8.out (fun _ hk => hk.2)), (by (with_reducible repeat (first | refine blk_drewN ?_ _ | refine blk_drew ?_ | refine blk_alloc ?_ _)); exact BK221.out), GW221.out, GE221.out, (by repeat (first | (with_reducible first | exact HB.out | apply below_alloc | apply pw_below_drewN | apply below_drew1 | refine below_set ?_ GE221.out) | exact HB.out))⟩)
                          ·skip
                           refine box_step ?hg (N := 14) ?hd (cs := #[.int .i64 0, .int .i64 0, .int .i64 0]) (t := 26) ?hr ?_; (case hd => rfl); (case hg => rfl); (case hr => first | (go_simp; done) | (go_simp; rfl))
                           intro gb222 hg w57 hbox hb
                           have n0_ := Aside0.mk (Kd.R_below (Kd.R_elderB (by (with_reducible repeat (first | apply Kd.R_alloc | apply Kd.R_drewN | apply Kd.R_drew)); exact HO_8.out) gb222 (Nat.le_of_eq hg.symm)) hb)
                           have n1_ := Aside0.mk (below_step (by repeat (first | (with_reducible first | exact HB.out | apply below_alloc | apply pw_below_drewN | apply below_drew1) | exact HB.out)) hb)
                           have n2_ := Aside0.mk (hbox)
                           have n3_ := Aside0.mk ((by rw [hg]; exact (below_size (by repeat (first | (with_reducible first | exact HB.out | apply below_alloc | apply pw_below_drewN | apply below_drew1) | exact HB.out))) : w.heap.size ≤ gb222))
                           have n4_ := Aside0.mk ((by rw [hg]; exact (below_size (by repeat (first | (with_reducible first | exact HB.out | apply below_alloc | apply pw_below_drewN | apply below_drew1) | exact HB.out))) : w.heap.size ≤ gb222))
                           clear HO_8
                           clear HB
                           have HO_8 := n0_
                           have HB := n1_
                           have BK222 := n2_
                           have GW222 := n3_
                           have GE222 := n4_
                           clear n0_ n1_ n2_ n3_ n4_
                           clear hb hbox hg
                           refine hK.out _ _ ⟨((HB.out.cell (World.block_lt_of_cell? w _ hw213_0)).trans hw213_0), ((HB.out.cell (World.block_lt_of_cell? w _ hw213_1)).trans hw213_1), ((HB.out.cell (World.block_lt_of_cell? w _ hw213_2)).trans hw213_2), ((HB.out.cell (World.block_lt_of_cell? w _ hw217_0)).trans hw217_0), ((HB.out.cell (World.block_lt_of_cell? w _ hw217_1)).trans hw217_1), ((HB.out.cell (World.block_lt_of_cell? w _ hw217_2)).trans hw217_2)⟩ (fun hHeld => ?_)
                           clear hK K
                           refine norm_ (a' := ?_) ?_ ?_
                           rotate_left
                           ·show Act.put _ (some 14) _ = _
                            simp only [Act.put, List.setIfInBounds_toArray, List.set_cons_zero, List.set_cons_succ, i64_w, i32_w]
                            rfl
                           exact norm_ (by first | (simp only [putAll, Act.put, List.setIfInBounds_toArray, List.set_cons_zero, List.set_cons_succ]; done) | (simp only [putAll, Act.put, List.setIfInBounds_toArray, List.set_cons_zero, List.set_cons_succ]; rfl)) (hJ5_10_12 (gb222) _ ⟨hHeld, (by (with_reducible repeat (first | apply Kd.R_alloc | apply Kd.R_drewN | apply Kd.R_drew)); exact Kd.R_mono HO_8.out (fun _ hk => hk.2)), (by (with_reducible repeat (first | refine blk_drewN ?_ _ | refine blk_drew ?_ | refine blk_alloc ?_ _)); exact BK222.out), GW222.out, GE222.out, (by repeat (first | (with_reducible first | exact HB.out | apply below_alloc | apply pw_below_drewN | apply below_drew1 | refine below_set ?_ GE222.out) | exact HB.out))⟩)
                        ·skip
                         rintro ⟨gb221, gb222⟩ w57 ⟨hS_, h0_, h1_, h2_, h3_, h4_, h5_, h6_, h7_, h8_, h9_⟩
                         have n0_ : Aside0 (Kd.R k26 26 w57 w.heap.size (fun k_ => k_ ≠ gb221 ∧ k_ ≠ gb222) v206 t204) := ⟨h0_⟩
                         have n1_ : Aside0 (w57.heap[gb221]? = some (.cells #[.int .i64 0, .int .i64 0, .int .i64 0] 26 (0, 0))) := ⟨h1_⟩
                         have n2_ : Aside0 (w57.heap[gb222]? = some (.cells #[.int .i64 0, .int .i64 0, .int .i64 0] 26 (0, 0))) := ⟨h2_⟩
                         have n3_ : Aside0 (w.heap.size ≤ gb221) := ⟨h3_⟩
                         have n4_ : Aside0 (w.heap.size ≤ gb221) := ⟨h4_⟩
                         have n5_ : Aside0 (gb222 ≠ gb221) := ⟨h5_⟩
                         have n6_ : Aside0 (gb221 ≠ gb222) := ⟨h6_⟩
                         have n7_ : Aside0 (w.heap.size ≤ gb222) := ⟨h7_⟩
                         have n8_ : Aside0 (w.heap.size ≤ gb222) := ⟨h8_⟩
                         have n9_ : Aside0 (Below w.heap.size w w57) := ⟨h9_⟩
                         clear HO_8
                         clear HB
                         clear h0_ h1_ h2_ h3_ h4_ h5_ h6_ h7_ h8_ h9_
                         have HO_8 := n0_
                         have BK221 := n1_
                         have BK222 := n2_
                         have GW221 := n3_
                         have GE221 := n4_
                         have NB222_221 := n5_
                         have NB221_222 := n6_
                         have GW222 := n7_
                         have GE222 := n8_
                         have HB := n9_
                         clear n0_ n1_ n2_ n3_ n4_ n5_ n6_ n7_ n8_ n9_
                         have hHeld : w57.cell? (ad213.add (((ji44)).toNat * 3)) = some (.int .i64 ((rd_T26 l0 (ji44)).f0)) ∧ w57.cell? ⟨(ad213.add (((ji44)).toNat * 3)).block, (ad213.add (((ji44)).toNat * 3)).off + 1, none⟩ = some (.int .i64 ((rd_T26 l0 (ji44)).f1)) ∧ w57.cell? ⟨(ad213.add (((ji44)).toNat * 3)).block, (ad213.add (((ji44)).toNat * 3)).off + 2, none⟩ = some (.int .i64 ((rd_T26 l0 (ji44)).f2)) ∧ w57.cell? (ad213.add ((x12_3).toNat * 3)) = some (.int .i64 ((rd_T26 l0 x12_3).f0)) ∧ w57.cell? ⟨(ad213.add ((x12_3).toNat * 3)).block, (ad213.add ((x12_3).toNat * 3)).off + 1, none⟩ = some (.int .i64 ((rd_T26 l0 x12_3).f1)) ∧ w57.cell? ⟨(ad213.add ((x12_3).toNat * 3)).block, (ad213.add ((x12_3).toNat * 3)).off + 2, none⟩ = some (.int .i64 ((rd_T26 l0 x12_3).f2)) := hS_
                         refine norm_ (a' := ?_) ?_ ?_
                         rotate_left
                         ·simp only [putAll, Act.put, List.setIfInBounds_toArray, List.set_cons_zero, List.set_cons_succ]
                          rfl
                         refine one_ (i := 10) (N := some 94) zb5_28 rfl rfl (one_of HT_.out (by kernel_rfl)) (by decide) (fun K hK => ?_)
                         refine goes_ Try.func6 (by kernel_rfl) rfl #[.agg #[.int .i64 ((rd_T26 l0 x12_3).f0), .int .i64 ((rd_T26 l0 x12_3).f1), .int .i64 ((rd_T26 l0 x12_3).f2)]] (by rfl) rfl rfl (by (try simp only [List.map_toArray, List.map_cons, List.map_nil]); first | done | rfl | (simp only [List.length_drop, List.length_take]; rfl)) ?_
                         with_reducible refine (lodestonelaw25_few.calls ((rd_T26 l0 x12_3).f0) ((rd_T26 l0 x12_3).f1) ((rd_T26 l0 x12_3).f2) t218 t219 t220 _ A50.out).mono ?_
                         rintro e w58 ⟨rfl, hb⟩
                         refine ⟨_, rfl, ?_⟩
                         have n0_ := Aside0.mk (Kd.R_below (by (with_reducible repeat (first | apply Kd.R_alloc | apply Kd.R_drewN | apply Kd.R_drew)); exact HO_8.out) hb)
                         have n1_ := Aside0.mk (blk_below (g := gb221) (o := .cells #[.int .i64 0, .int .i64 0, .int .i64 0] 26 (0, 0)) (by (with_reducible repeat (first | refine blk_drewN ?_ _ | refine blk_drew ?_ | refine blk_alloc ?_ _)); exact BK221.out) hb)
                         have n2_ := Aside0.mk (blk_below (g := gb222) (o := .cells #[.int .i64 0, .int .i64 0, .int .i64 0] 26 (0, 0)) (by (with_reducible repeat (first | refine blk_drewN ?_ _ | refine blk_drew ?_ | refine blk_alloc ?_ _)); exact BK222.out) hb)
                         have n3_ := Aside0.mk (below_step (by repeat (first | (with_reducible first | exact HB.out | apply below_alloc | apply pw_below_drewN | apply below_drew1 | refine below_set ?_ GE221.out | refine below_set ?_ GE222.out) | exact HB.out)) hb)
                         clear HO_8
                         clear BK221
                         clear BK222
                         clear HB
                         have HO_8 := n0_
                         have BK221 := n1_
                         have BK222 := n2_
                         have HB := n3_
                         clear n0_ n1_ n2_ n3_
                         (try clear hb)
                         (try clear hb2)
                         (try clear hk)
                         (try clear hi)
                         refine hK.out _ _ ⟨((HB.out.cell (World.block_lt_of_cell? w _ hw213_0)).trans hw213_0), ((HB.out.cell (World.block_lt_of_cell? w _ hw213_1)).trans hw213_1), ((HB.out.cell (World.block_lt_of_cell? w _ hw213_2)).trans hw213_2), ((HB.out.cell (World.block_lt_of_cell? w _ hw217_0)).trans hw217_0), ((HB.out.cell (World.block_lt_of_cell? w _ hw217_1)).trans hw217_1), ((HB.out.cell (World.block_lt_of_cell? w _ hw217_2)).trans hw217_2)⟩ (fun hHeld => ?_)
                         clear hK K
                         refine norm_ (a' := ?_) ?_ ?_
                         rotate_left
                         ·show Act.put _ (some 94) _ = _
                          simp only [Act.put, List.setIfInBounds_toArray, List.set_cons_zero, List.set_cons_succ, i64_w, i32_w]
                          rfl
                         exact norm_ (by first | (simp only [putAll, Act.put, List.setIfInBounds_toArray, List.set_cons_zero, List.set_cons_succ]; done) | (simp only [putAll, Act.put, List.setIfInBounds_toArray, List.set_cons_zero, List.set_cons_succ]; rfl)) (hJ5_10_11_12 (gb221, gb222) _ ⟨hHeld, (by (with_reducible repeat (first | apply Kd.R_alloc | apply Kd.R_drewN | apply Kd.R_drew)); exact HO_8.out), (by (with_reducible repeat (first | refine blk_drewN ?_ _ | refine blk_drew ?_ | refine blk_alloc ?_ _)); exact BK221.out), (by (with_reducible repeat (first | refine blk_drewN ?_ _ | refine blk_drew ?_ | refine blk_alloc ?_ _)); exact BK222.out), GW221.out, GE221.out, NB222_221.out, NB221_222.out, GW222.out, GE222.out, (by repeat (first | (with_reducible first | exact HB.out | apply below_alloc | apply pw_below_drewN | apply below_drew1 | refine below_set ?_ GE221.out | refine below_set ?_ GE222.out) | exact HB.out))⟩)
                       ·skip
                        rintro gb222 w57 ⟨hS_, h0_, h1_, h2_, h3_, h4_⟩
                        have n0_ : Aside0 (Kd.R k26 26 w57 w.heap.size (fun k_ => k_ ≠ gb222) v206 t204) := ⟨h0_⟩
                        have n1_ : Aside0 (w57.heap[gb222]? = some (.cells #[.int .i64 0, .int .i64 0, .int .i64 0] 26 (0, 0))) := ⟨h1_⟩
                        have n2_ : Aside0 (w.heap.size ≤ gb222) := ⟨h2_⟩
                        have n3_ : Aside0 (w.heap.size ≤ gb222) := ⟨h3_⟩
                        have n4_ : Aside0 (Below w.heap.size w w57) := ⟨h4_⟩
                        clear HO_8
                        clear HB
                        clear h0_ h1_ h2_ h3_ h4_
                        have HO_8 := n0_
                        have BK222 := n1_
                        have GW222 := n2_
                        have GE222 := n3_
                        have HB := n4_
                        clear n0_ n1_ n2_ n3_ n4_
                        have hHeld : w57.cell? (ad213.add (((ji44)).toNat * 3)) = some (.int .i64 ((rd_T26 l0 (ji44)).f0)) ∧ w57.cell? ⟨(ad213.add (((ji44)).toNat * 3)).block, (ad213.add (((ji44)).toNat * 3)).off + 1, none⟩ = some (.int .i64 ((rd_T26 l0 (ji44)).f1)) ∧ w57.cell? ⟨(ad213.add (((ji44)).toNat * 3)).block, (ad213.add (((ji44)).toNat * 3)).off + 2, none⟩ = some (.int .i64 ((rd_T26 l0 (ji44)).f2)) ∧ w57.cell? (ad213.add ((x12_3).toNat * 3)) = some (.int .i64 ((rd_T26 l0 x12_3).f0)) ∧ w57.cell? ⟨(ad213.add ((x12_3).toNat * 3)).block, (ad213.add ((x12_3).toNat * 3)).off + 1, none⟩ = some (.int .i64 ((rd_T26 l0 x12_3).f1)) ∧ w57.cell? ⟨(ad213.add ((x12_3).toNat * 3)).block, (ad213.add ((x12_3).toNat * 3)).off + 2, none⟩ = some (.int .i64 ((rd_T26 l0 x12_3).f2)) := hS_
                        refine norm_ (a' := ?_) ?_ ?_
                        rotate_left
                        ·simp only [putAll, Act.put, List.setIfInBounds_toArray, List.set_cons_zero, List.set_cons_succ]
                         rfl
                        refine one_ (i := 11) (N := some 13) zb5_28 rfl rfl (one_of HT_.out (by kernel_rfl)) (by decide) (fun K hK => ?_)
                        refine box_step ?hg (N := 13) ?hd (cs := #[.int .i64 0, .int .i64 0, .int .i64 0]) (t := 26) ?hr ?_; (case hd => rfl); (case hg => rfl); (case hr => first | (go_simp; done) | (go_simp; rfl))
                        intro gb221 hg w58 hbox hb
                        have n0_ := Aside0.mk (Kd.R_below (Kd.R_elderB (by (with_reducible repeat (first | apply Kd.R_alloc | apply Kd.R_drewN | apply Kd.R_drew)); exact HO_8.out) gb221 (Nat.le_of_eq hg.symm)) hb)
                        have n1_ := Aside0.mk (blk_below (g := gb222) (o := .cells #[.int .i64 0, .int .i64 0, .int .i64 0] 26 (0, 0)) (by (with_reducible repeat (first | refine blk_drewN ?_ _ | refine blk_drew ?_ | refine blk_alloc ?_ _)); exact BK222.out) hb)
                        have n2_ := Aside0.mk (below_step (by repeat (first | (with_reducible first | exact HB.out | apply below_alloc | apply pw_below_drewN | apply below_drew1 | refine below_set ?_ GE222.out) | exact HB.out)) hb)
                        have n3_ := Aside0.mk (hbox)
                        have n4_ := Aside0.mk ((by rw [hg]; exact (below_size (by repeat (first | (with_reducible first | exact HB.out | apply below_alloc | apply pw_below_drewN | apply below_drew1 | refine below_set ?_ GE222.out) | exact HB.out))) : w.heap.size ≤ gb221))
                        have n5_ := Aside0.mk ((by rw [hg]; exact (below_size (by repeat (first | (with_reducible first | exact HB.out | apply below_alloc | apply pw_below_drewN | apply below_drew1 | refine below_set ?_ GE222.out) | exact HB.out))) : w.heap.size ≤ gb221))
                        have n6_ := Aside0.mk ((by rw [hg]; exact Nat.ne_of_lt (blk_lt (g := gb222) (o := .cells #[.int .i64 0, .int .i64 0, .int .i64 0] 26 (0, 0)) (by (with_reducible repeat (first | refine blk_drewN ?_ _ | refine blk_drew ?_ | refine blk_alloc ?_ _)); exact BK222.out)) : gb222 ≠ gb221))
                        have n7_ := Aside0.mk ((by rw [hg]; exact Nat.ne_of_gt (blk_lt (g := gb222) (o := .cells #[.int .i64 0, .int .i64 0, .int .i64 0] 26 (0, 0)) (by (with_reducible repeat (first | refine blk_drewN ?_ _ | refine blk_drew ?_ | refine blk_alloc ?_ _)); exact BK222.out)) : gb221 ≠ gb222))
                        clear HO_8
                        clear BK222
                        clear HB
                        have HO_8 := n0_
                        have BK222 := n1_
                        have HB := n2_
                        have BK221 := n3_
                        have GW221 := n4_
                        have GE221 := n5_
                        have NB222_221 := n6_
                        have NB221_222 := n7_
                        clear n0_ n1_ n2_ n3_ n4_ n5_ n6_ n7_
                        clear hb hbox hg
                        refine hK.out _ _ ⟨((HB.out.cell (World.block_lt_of_cell? w _ hw213_0)).trans hw213_0), ((HB.out.cell (World.block_lt_of_cell? w _ hw213_1)).trans hw213_1), ((HB.out.cell (World.block_lt_of_cell? w _ hw213_2)).trans hw213_2), ((HB.out.cell (World.block_lt_of_cell? w _ hw217_0)).trans hw217_0), ((HB.out.cell (World.block_lt_of_cell? w _ hw217_1)).trans hw217_1), ((HB.out.cell (World.block_lt_of_cell? w _ hw217_2)).trans hw217_2)⟩ (fun hHeld => ?_)
                        clear hK K
                        refine norm_ (a' := ?_) ?_ ?_
                        rotate_left
                        ·show Act.put _ (some 13) _ = _
                         simp only [Act.put, List.setIfInBounds_toArray, List.set_cons_zero, List.set_cons_succ, i64_w, i32_w]
                         rfl
                        exact norm_ (by first | (simp only [putAll, Act.put, List.setIfInBounds_toArray, List.set_cons_zero, List.set_cons_succ]; done) | (simp only [putAll, Act.put, List.setIfInBounds_toArray, List.set_cons_zero, List.set_cons_succ]; rfl)) (hJ5_10_11_12 (gb221, gb222) _ ⟨hHeld, (by (with_reducible repeat (first | apply Kd.R_alloc | apply Kd.R_drewN | apply Kd.R_drew)); exact Kd.R_mono HO_8.out (fun _ hk => ⟨hk.2, hk.1⟩)), (by (with_reducible repeat (first | refine blk_drewN ?_ _ | refine blk_drew ?_ | refine blk_alloc ?_ _)); exact BK221.out), (by (with_reducible repeat (first | refine blk_drewN ?_ _ | refine blk_drew ?_ | refine blk_alloc ?_ _)); exact BK222.out), GW221.out, GE221.out, NB222_221.out, NB221_222.out, GW222.out, GE222.out, (by repeat (first | (with_reducible first | exact HB.out | apply below_alloc | apply pw_below_drewN | apply below_drew1 | refine below_set ?_ GE222.out | refine below_set ?_ GE221.out) | exact HB.out))⟩)
                      ·skip
                       rintro gb221 w57 ⟨hS_, h0_, h1_, h2_, h3_, h4_⟩
                       have n0_ : Aside0 (Kd.R k26 26 w57 w.heap.size (fun k_ => k_ ≠ gb221) v206 t204) := ⟨h0_⟩
                       have n1_ : Aside0 (w57.heap[gb221]? = some (.cells #[.int .i64 0, .int .i64 0, .int .i64 0] 26 (0, 0))) := ⟨h1_⟩
                       have n2_ : Aside0 (w.heap.size ≤ gb221) := ⟨h2_⟩
                       have n3_ : Aside0 (w.heap.size ≤ gb221) := ⟨h3_⟩
                       have n4_ : Aside0 (Below w.heap.size w w57) := ⟨h4_⟩
                       clear HO_8
                       clear HB
                       clear h0_ h1_ h2_ h3_ h4_
                       have HO_8 := n0_
                       have BK221 := n1_
                       have GW221 := n2_
                       have GE221 := n3_
                       have HB := n4_
                       clear n0_ n1_ n2_ n3_ n4_
                       have hHeld : w57.cell? (ad213.add (((ji44)).toNat * 3)) = some (.int .i64 ((rd_T26 l0 (ji44)).f0)) ∧ w57.cell? ⟨(ad213.add (((ji44)).toNat * 3)).block, (ad213.add (((ji44)).toNat * 3)).off + 1, none⟩ = some (.int .i64 ((rd_T26 l0 (ji44)).f1)) ∧ w57.cell? ⟨(ad213.add (((ji44)).toNat * 3)).block, (ad213.add (((ji44)).toNat * 3)).off + 2, none⟩ = some (.int .i64 ((rd_T26 l0 (ji44)).f2)) ∧ w57.cell? (ad213.add ((x12_3).toNat * 3)) = some (.int .i64 ((rd_T26 l0 x12_3).f0)) ∧ w57.cell? ⟨(ad213.add ((x12_3).toNat * 3)).block, (ad213.add ((x12_3).toNat * 3)).off + 1, none⟩ = some (.int .i64 ((rd_T26 l0 x12_3).f1)) ∧ w57.cell? ⟨(ad213.add ((x12_3).toNat * 3)).block, (ad213.add ((x12_3).toNat * 3)).off + 2, none⟩ = some (.int .i64 ((rd_T26 l0 x12_3).f2)) := hS_
                       refine norm_ (a' := ?_) ?_ ?_
                       rotate_left
                       ·simp only [putAll, Act.put, List.setIfInBounds_toArray, List.set_cons_zero, List.set_cons_succ]
                        rfl
                       refine one_ (i := 12) (N := some 14) zb5_28 rfl rfl (one_of HT_.out (by kernel_rfl)) (by decide) (fun K hK => ?_)
                       refine box_step ?hg (N := 14) ?hd (cs := #[.int .i64 0, .int .i64 0, .int .i64 0]) (t := 26) ?hr ?_; (case hd => rfl); (case hg => rfl); (case hr => first | (go_simp; done) | (go_simp; rfl))
                       intro gb222 hg w58 hbox hb
                       have n0_ := Aside0.mk (Kd.R_below (Kd.R_elderB (by (with_reducible repeat (first | apply Kd.R_alloc | apply Kd.R_drewN | apply Kd.R_drew)); exact HO_8.out) gb222 (Nat.le_of_eq hg.symm)) hb)
                       have n1_ := Aside0.mk (blk_below (g := gb221) (o := .cells #[.int .i64 0, .int .i64 0, .int .i64 0] 26 (0, 0)) (by (with_reducible repeat (first | refine blk_drewN ?_ _ | refine blk_drew ?_ | refine blk_alloc ?_ _)); exact BK221.out) hb)
                       have n2_ := Aside0.mk (below_step (by repeat (first | (with_reducible first | exact HB.out | apply below_alloc | apply pw_below_drewN | apply below_drew1 | refine below_set ?_ GE221.out) | exact HB.out)) hb)
                       have n3_ := Aside0.mk (hbox)
                       have n4_ := Aside0.mk ((by rw [hg]; exact (below_size (by repeat (first | (with_reducible first | exact HB.out | apply below_alloc | apply pw_below_drewN | apply below_drew1 | refine below_set ?_ GE221.out) | exact HB.out))) : w.heap.size ≤ gb222))
                       have n5_ := Aside0.mk ((by rw [hg]; exact (below_size (by repeat (first | (with_reducible first | exact HB.out | apply below_alloc | apply pw_below_drewN | apply below_drew1 | refine below_set ?_ GE221.out) | exact HB.out))) : w.heap.size ≤ gb222))
                       have n6_ := Aside0.mk ((by rw [hg]; exact Nat.ne_of_lt (blk_lt (g := gb221) (o := .cells #[.int .i64 0, .int .i64 0, .int .i64 0] 26 (0, 0)) (by (with_reducible repeat (first | refine blk_drewN ?_ _ | refine blk_drew ?_ | refine blk_alloc ?_ _)); exact BK221.out)) : gb221 ≠ gb222))
                       have n7_ := Aside0.mk ((by rw [hg]; exact Nat.ne_of_gt (blk_lt (g := gb221) (o := .cells #[.int .i64 0, .int .i64 0, .int .i64 0] 26 (0, 0)) (by (with_reducible repeat (first | refine blk_drewN ?_ _ | refine blk_drew ?_ | refine blk_alloc ?_ _)); exact BK221.out)) : gb222 ≠ gb221))
                       clear HO_8
                       clear BK221
                       clear HB
                       have HO_8 := n0_
                       have BK221 := n1_
                       have HB := n2_
                       have BK222 := n3_
                       have GW222 := n4_
                       have GE222 := n5_
                       have NB221_222 := n6_
                       have NB222_221 := n7_
                       clear n0_ n1_ n2_ n3_ n4_ n5_ n6_ n7_
                       clear hb hbox hg
                       refine hK.out _ _ ⟨((HB.out.cell (World.block_lt_of_cell? w _ hw213_0)).trans hw213_0), ((HB.out.cell (World.block_lt_of_cell? w _ hw213_1)).trans hw213_1), ((HB.out.cell (World.block_lt_of_cell? w _ hw213_2)).trans hw213_2), ((HB.out.cell (World.block_lt_of_cell? w _ hw217_0)).trans hw217_0), ((HB.out.cell (World.block_lt_of_cell? w _ hw217_1)).trans hw217_1), ((HB.out.cell (World.block_lt_of_cell? w _ hw217_2)).trans hw217_2)⟩ (fun hHeld => ?_)
                       clear hK K
                       refine norm_ (a' := ?_) ?_ ?_
                       rotate_left
                       ·show Act.put _ (some 14) _ = _
                        simp only [Act.put, List.setIfInBounds_toArray, List.set_cons_zero, List.set_cons_succ, i64_w, i32_w]
                        rfl
                       exact norm_ (by first | (simp only [putAll, Act.put, List.setIfInBounds_toArray, List.set_cons_zero, List.set_cons_succ]; done) | (simp only [putAll, Act.put, List.setIfInBounds_toArray, List.set_cons_zero, List.set_cons_succ]; rfl)) (hJ5_10_11_12 (gb221, gb222) _ ⟨hHeld, (by (with_reducible repeat (first | apply Kd.R_alloc | apply Kd.R_drewN | apply Kd.R_drew)); exact HO_8.out), (by (with_reducible repeat (first | refine blk_drewN ?_ _ | refine blk_drew ?_ | refine blk_alloc ?_ _)); exact BK221.out), (by (with_reducible repeat (first | refine blk_drewN ?_ _ | refine blk_drew ?_ | refine blk_alloc ?_ _)); exact BK222.out), GW221.out, GE221.out, NB222_221.out, NB221_222.out, GW222.out, GE222.out, (by repeat (first | (with_reducible first | exact HB.out | apply below_alloc | apply pw_below_drewN | apply below_drew1 | refine below_set ?_ GE221.out | refine below_set ?_ GE222.out) | exact HB.out))⟩)
                     rintro ⟨gb221, gb222⟩ w58 ⟨hS_, h0_, h1_, h2_, h3_, h4_, h5_, h6_, h7_, h8_, h9_⟩
                     have n0_ : Aside0 (Kd.R k26 26 w58 w.heap.size (fun k_ => k_ ≠ gb221 ∧ k_ ≠ gb222) v206 t204) := ⟨h0_⟩
                     have n1_ : Aside0 (w58.heap[gb221]? = some (.cells #[.int .i64 0, .int .i64 0, .int .i64 0] 26 (0, 0))) := ⟨h1_⟩
                     have n2_ : Aside0 (w58.heap[gb222]? = some (.cells #[.int .i64 0, .int .i64 0, .int .i64 0] 26 (0, 0))) := ⟨h2_⟩
                     have n3_ : Aside0 (w.heap.size ≤ gb221) := ⟨h3_⟩
                     have n4_ : Aside0 (w.heap.size ≤ gb221) := ⟨h4_⟩
                     have n5_ : Aside0 (gb222 ≠ gb221) := ⟨h5_⟩
                     have n6_ : Aside0 (gb221 ≠ gb222) := ⟨h6_⟩
                     have n7_ : Aside0 (w.heap.size ≤ gb222) := ⟨h7_⟩
                     have n8_ : Aside0 (w.heap.size ≤ gb222) := ⟨h8_⟩
                     have n9_ : Aside0 (Below w.heap.size w w58) := ⟨h9_⟩
                     clear HO_8
                     clear HB
                     clear h0_ h1_ h2_ h3_ h4_ h5_ h6_ h7_ h8_ h9_
                     have HO_8 := n0_
                     have BK221 := n1_
                     have BK222 := n2_
                     have GW221 := n3_
                     have GE221 := n4_
                     have NB222_221 := n5_
                     have NB221_222 := n6_
                     have GW222 := n7_
                     have GE222 := n8_
                     have HB := n9_
                     clear n0_ n1_ n2_ n3_ n4_ n5_ n6_ n7_ n8_ n9_
                     have hHeld : w58.cell? (ad213.add (((ji44)).toNat * 3)) = some (.int .i64 ((rd_T26 l0 (ji44)).f0)) ∧ w58.cell? ⟨(ad213.add (((ji44)).toNat * 3)).block, (ad213.add (((ji44)).toNat * 3)).off + 1, none⟩ = some (.int .i64 ((rd_T26 l0 (ji44)).f1)) ∧ w58.cell? ⟨(ad213.add (((ji44)).toNat * 3)).block, (ad213.add (((ji44)).toNat * 3)).off + 2, none⟩ = some (.int .i64 ((rd_T26 l0 (ji44)).f2)) ∧ w58.cell? (ad213.add ((x12_3).toNat * 3)) = some (.int .i64 ((rd_T26 l0 x12_3).f0)) ∧ w58.cell? ⟨(ad213.add ((x12_3).toNat * 3)).block, (ad213.add ((x12_3).toNat * 3)).off + 1, none⟩ = some (.int .i64 ((rd_T26 l0 x12_3).f1)) ∧ w58.cell? ⟨(ad213.add ((x12_3).toNat * 3)).block, (ad213.add ((x12_3).toNat * 3)).off + 2, none⟩ = some (.int .i64 ((rd_T26 l0 x12_3).f2)) := hS_
                     refine norm_ (a' := ?_) ?_ ?_
                     rotate_left
                     ·simp only [putAll, Act.put, List.setIfInBounds_toArray, List.set_cons_zero, List.set_cons_succ]
                      rfl
                     refine one_ (i := 13) (N := none) zb5_39 rfl rfl (one_of HT_.out (by kernel_rfl)) (by decide) (fun K hK => ?_)
                     have hs59 : w58.cell? ⟨gb221, 0, none⟩ = some (.int .i64 0) := (blk_cell BK221.out 0).trans rfl
                     have hfs59 := blk_frozen BK221.out 0
                     have hns59_1 := NB222_221.out
                     have hms59_1 := NB221_222.out
                     have hs60 : w58.cell? ⟨gb221, 1, none⟩ = some (.int .i64 0) := (blk_cell BK221.out 1).trans rfl
                     have hfs60 := blk_frozen BK221.out 1
                     have hns60_1 := NB222_221.out
                     have hms60_1 := NB221_222.out
                     have hs61 : w58.cell? ⟨gb221, 2, none⟩ = some (.int .i64 0) := (blk_cell BK221.out 2).trans rfl
                     have hfs61 := blk_frozen BK221.out 2
                     have hns61_1 := NB222_221.out
                     have hms61_1 := NB221_222.out
                     refine skip_ (w1 := ?_) (by rfl) rfl ?_ ?_
                     rotate_left
                     ·go_simp
                      rfl
                     refine hK.out _ _ ⟨((cell_far (p := ⟨gb221, _, none⟩) (by first | exact Nat.ne_of_lt (Nat.lt_of_lt_of_le (by have := World.block_lt_of_cell? _ _ hw213_0; first | rwa [add_block] at this | exact this) GW221.out) | (rw [add_block]; exact Nat.ne_of_lt (Nat.lt_of_lt_of_le (by have := World.block_lt_of_cell? _ _ hw213_0; first | rwa [add_block] at this | exact this) GW221.out)) | (show (Addr.add _ _).block ≠ _; rw [add_block]; exact Nat.ne_of_lt (Nat.lt_of_lt_of_le (by have := World.block_lt_of_cell? _ _ hw213_0; first | rwa [add_block] at this | exact this) GW221.out)) | (dsimp only; exact Nat.ne_of_lt (Nat.lt_of_lt_of_le (by have := World.block_lt_of_cell? _ _ hw213_0; first | rwa [add_block] at this | exact this) GW221.out))) _).trans (((cell_far (p := ⟨gb221, _, none⟩) (by first | exact Nat.ne_of_lt (Nat.lt_of_lt_of_le (by have := World.block_lt_of_cell? _ _ hw213_0; first | rwa [add_block] at this | exact this) GW221.out) | (rw [add_block]; exact Nat.ne_of_lt (Nat.lt_of_lt_of_le (by have := World.block_lt_of_cell? _ _ hw213_0; first | rwa [add_block] at this | exact this) GW221.out)) | (show (Addr.add _ _).block ≠ _; rw [add_block]; exact Nat.ne_of_lt (Nat.lt_of_lt_of_le (by have := World.block_lt_of_cell? _ _ hw213_0; first | rwa [add_block] at this | exact this) GW221.out)) | (dsimp only; exact Nat.ne_of_lt (Nat.lt_of_lt_of_le (by have := World.block_lt_of_cell? _ _ hw213_0; first | rwa [add_block] at this | exact this) GW221.out))) _).trans (((cell_far (p := ⟨gb221, _, none⟩) (by first | exact Nat.ne_of_lt (Nat.lt_of_lt_of_le (by have := World.block_lt_of_cell? _ _ hw213_0; first | rwa [add_block] at this | exact this) GW221.out) | (rw [add_block]; exact Nat.ne_of_lt (Nat.lt_of_lt_of_le (by have := World.block_lt_of_cell? _ _ hw213_0; first | rwa [add_block] at this | exact this) GW221.out)) | (show (Addr.add _ _).block ≠ _; rw [add_block]; exact Nat.ne_of_lt (Nat.lt_of_lt_of_le (by have := World.block_lt_of_cell? _ _ hw213_0; first | rwa [add_block] at this | exact this) GW221.out)) | (dsimp only; exact Nat.ne_of_lt (Nat.lt_of_lt_of_le (by have := World.block_lt_of_cell? _ _ hw213_0; first | rwa [add_block] at this | exact this) GW221.out))) _).trans (hHeld.1)))))), ((cell_far (p := ⟨gb221, _, none⟩) (by first | exact Nat.ne_of_lt (Nat.lt_of_lt_of_le (by have := World.block_lt_of_cell? _ _ hw213_1; first | rwa [add_block] at this | exact this) GW221.out) | (rw [add_block]; exact Nat.ne_of_lt (Nat.lt_of_lt_of_le (by have := World.block_lt_of_cell? _ _ hw213_1; first | rwa [add_block] at this | exact this) GW221.out)) | (show (Addr.add _ _).block ≠ _; rw [add_block]; exact Nat.ne_of_lt (Nat.lt_of_lt_of_le (by have := World.block_lt_of_cell? _ _ hw213_1; first | rwa [add_block] at this | exact this) GW221.out)) | (dsimp only; exact Nat.ne_of_lt (Nat.lt_of_lt_of_le (by have := World.block_lt_of_cell? _ _ hw213_1; first | rwa [add_block] at this | exact this) GW221.out))) _).trans (((cell_far (p := ⟨gb221, _, none⟩) (by first | exact Nat.ne_of_lt (Nat.lt_of_lt_of_le (by have := World.block_lt_of_cell? _ _ hw213_1; first | rwa [add_block] at this | exact this) GW221.out) | (rw [add_block]; exact Nat.ne_of_lt (Nat.lt_of_lt_of_le (by have := World.block_lt_of_cell? _ _ hw213_1; first | rwa [add_block] at this | exact this) GW221.out)) | (show (Addr.add _ _).block ≠ _; rw [add_block]; exact Nat.ne_of_lt (Nat.lt_of_lt_of_le (by have := World.block_lt_of_cell? _ _ hw213_1; first | rwa [add_block] at this | exact this) GW221.out)) | (dsimp only; exact Nat.ne_of_lt (Nat.lt_of_lt_of_le (by have := World.block_lt_of_cell? _ _ hw213_1; first | rwa [add_block] at this | exact this) GW221.out))) _).trans (((cell_far (p := ⟨gb221, _, none⟩) (by first | exact Nat.ne_of_lt (Nat.lt_of_lt_of_le (by have := World.block_lt_of_cell? _ _ hw213_1; first | rwa [add_block] at this | exact this) GW221.out) | (rw [add_block]; exact Nat.ne_of_lt (Nat.lt_of_lt_of_le (by have := World.block_lt_of_cell? _ _ hw213_1; first | rwa [add_block] at this | exact this) GW221.out)) | (show (Addr.add _ _).block ≠ _; rw [add_block]; exact Nat.ne_of_lt (Nat.lt_of_lt_of_le (by have := World.block_lt_of_cell? _ _ hw213_1; first | rwa [add_block] at this | exact this) GW221.out)) | (dsimp only; exact Nat.ne_of_lt (Nat.lt_of_lt_of_le (by have := World.block_lt_of_cell? _ _ hw213_1; first | rwa [add_block] at this | exact this) GW221.out))) _).trans (hHeld.2.1)))))), ((cell_far (p := ⟨gb221, _, none⟩) (by first | exact Nat.ne_of_lt (Nat.lt_of_lt_of_le (by have := World.block_lt_of_cell? _ _ hw213_2; first | rwa [add_block] at this | exact this) GW221.out) | (rw [add_block]; exact Nat.ne_of_lt (Nat.lt_of_lt_of_le (by have := World.block_lt_of_cell? _ _ hw213_2; first | rwa [add_block] at this | exact this) GW221.out)) | (show (Addr.add _ _).block ≠ _; rw [add_block]; exact Nat.ne_of_lt (Nat.lt_of_lt_of_le (by have := World.block_lt_of_cell? _ _ hw213_2; first | rwa [add_block] at this | exact this) GW221.out)) | (dsimp only; exact Nat.ne_of_lt (Nat.lt_of_lt_of_le (by have := World.block_lt_of_cell? _ _ hw213_2; first | rwa [add_block] at this | exact this) GW221.out))) _).trans (((cell_far (p := ⟨gb221, _, none⟩) (by first | exact Nat.ne_of_lt (Nat.lt_of_lt_of_le (by have := World.block_lt_of_cell? _ _ hw213_2; first | rwa [add_block] at this | exact this) GW221.out) | (rw [add_block]; exact Nat.ne_of_lt (Nat.lt_of_lt_of_le (by have := World.block_lt_of_cell? _ _ hw213_2; first | rwa [add_block] at this | exact this) GW221.out)) | (show (Addr.add _ _).block ≠ _; rw [add_block]; exact Nat.ne_of_lt (Nat.lt_of_lt_of_le (by have := World.block_lt_of_cell? _ _ hw213_2; first | rwa [add_block] at this | exact this) GW221.out)) | (dsimp only; exact Nat.ne_of_lt (Nat.lt_of_lt_of_le (by have := World.block_lt_of_cell? _ _ hw213_2; first | rwa [add_block] at this | exact this) GW221.out))) _).trans (((cell_far (p := ⟨gb221, _, none⟩) (by first | exact Nat.ne_of_lt (Nat.lt_of_lt_of_le (by have := World.block_lt_of_cell? _ _ hw213_2; first | rwa [add_block] at this | exact this) GW221.out) | (rw [add_block]; exact Nat.ne_of_lt (Nat.lt_of_lt_of_le (by have := World.block_lt_of_cell? _ _ hw213_2; first | rwa [add_block] at this | exact this) GW221.out)) | (show (Addr.add _ _).block ≠ _; rw [add_block]; exact Nat.ne_of_lt (Nat.lt_of_lt_of_le (by have := World.block_lt_of_cell? _ _ hw213_2; first | rwa [add_block] at this | exact this) GW221.out)) | (dsimp only; exact Nat.ne_of_lt (Nat.lt_of_lt_of_le (by have := World.block_lt_of_cell? _ _ hw213_2; first | rwa [add_block] at this | exact this) GW221.out))) _).trans (hHeld.2.2.1)))))), ((cell_far (p := ⟨gb221, _, none⟩) (by first | exact Nat.ne_of_lt (Nat.lt_of_lt_of_le (by have := World.block_lt_of_cell? _ _ hw217_0; first | rwa [add_block] at this | exact this) GW221.out) | (rw [add_block]; exact Nat.ne_of_lt (Nat.lt_of_lt_of_le (by have := World.block_lt_of_cell? _ _ hw217_0; first | rwa [add_block] at this | exact this) GW221.out)) | (show (Addr.add _ _).block ≠ _; rw [add_block]; exact Nat.ne_of_lt (Nat.lt_of_lt_of_le (by have := World.block_lt_of_cell? _ _ hw217_0; first | rwa [add_block] at this | exact this) GW221.out)) | (dsimp only; exact Nat.ne_of_lt (Nat.lt_of_lt_of_le (by have := World.block_lt_of_cell? _ _ hw217_0; first | rwa [add_block] at this | exact this) GW221.out))) _).trans (((cell_far (p := ⟨gb221, _, none⟩) (by first | exact Nat.ne_of_lt (Nat.lt_of_lt_of_le (by have := World.block_lt_of_cell? _ _ hw217_0; first | rwa [add_block] at this | exact this) GW221.out) | (rw [add_block]; exact Nat.ne_of_lt (Nat.lt_of_lt_of_le (by have := World.block_lt_of_cell? _ _ hw217_0; first | rwa [add_block] at this | exact this) GW221.out)) | (show (Addr.add _ _).block ≠ _; rw [add_block]; exact Nat.ne_of_lt (Nat.lt_of_lt_of_le (by have := World.block_lt_of_cell? _ _ hw217_0; first | rwa [add_block] at this | exact this) GW221.out)) | (dsimp only; exact Nat.ne_of_lt (Nat.lt_of_lt_of_le (by have := World.block_lt_of_cell? _ _ hw217_0; first | rwa [add_block] at this | exact this) GW221.out))) _).trans (((cell_far (p := ⟨gb221, _, none⟩) (by first | exact Nat.ne_of_lt (Nat.lt_of_lt_of_le (by have := World.block_lt_of_cell? _ _ hw217_0; first | rwa [add_block] at this | exact this) GW221.out) | (rw [add_block]; exact Nat.ne_of_lt (Nat.lt_of_lt_of_le (by have := World.block_lt_of_cell? _ _ hw217_0; first | rwa [add_block] at this | exact this) GW221.out)) | (show (Addr.add _ _).block ≠ _; rw [add_block]; exact Nat.ne_of_lt (Nat.lt_of_lt_of_le (by have := World.block_lt_of_cell? _ _ hw217_0; first | rwa [add_block] at this | exact this) GW221.out)) | (dsimp only; exact Nat.ne_of_lt (Nat.lt_of_lt_of_le (by have := World.block_lt_of_cell? _ _ hw217_0; first | rwa [add_block] at this | exact this) GW221.out))) _).trans (hHeld.2.2.2.1)))))), ((cell_far (p := ⟨gb221, _, none⟩) (by first | exact Nat.ne_of_lt (Nat.lt_of_lt_of_le (by have := World.block_lt_of_cell? _ _ hw217_1; first | rwa [add_block] at this | exact this) GW221.out) | (rw [add_block]; exact Nat.ne_of_lt (Nat.lt_of_lt_of_le (by have := World.block_lt_of_cell? _ _ hw217_1; first | rwa [add_block] at this | exact this) GW221.out)) | (show (Addr.add _ _).block ≠ _; rw [add_block]; exact Nat.ne_of_lt (Nat.lt_of_lt_of_le (by have := World.block_lt_of_cell? _ _ hw217_1; first | rwa [add_block] at this | exact this) GW221.out)) | (dsimp only; exact Nat.ne_of_lt (Nat.lt_of_lt_of_le (by have := World.block_lt_of_cell? _ _ hw217_1; first | rwa [add_block] at this | exact this) GW221.out))) _).trans (((cell_far (p := ⟨gb221, _, none⟩) (by first | exact Nat.ne_of_lt (Nat.lt_of_lt_of_le (by have := World.block_lt_of_cell? _ _ hw217_1; first | rwa [add_block] at this | exact this) GW221.out) | (rw [add_block]; exact Nat.ne_of_lt (Nat.lt_of_lt_of_le (by have := World.block_lt_of_cell? _ _ hw217_1; first | rwa [add_block] at this | exact this) GW221.out)) | (show (Addr.add _ _).block ≠ _; rw [add_block]; exact Nat.ne_of_lt (Nat.lt_of_lt_of_le (by have := World.block_lt_of_cell? _ _ hw217_1; first | rwa [add_block] at this | exact this) GW221.out)) | (dsimp only; exact Nat.ne_of_lt (Nat.lt_of_lt_of_le (by have := World.block_lt_of_cell? _ _ hw217_1; first | rwa [add_block] at this | exact this) GW221.out))) _).trans (((cell_far (p := ⟨gb221, _, none⟩) (by first | exact Nat.ne_of_lt (Nat.lt_of_lt_of_le (by have := World.block_lt_of_cell? _ _ hw217_1; first | rwa [add_block] at this | exact this) GW221.out) | (rw [add_block]; exact Nat.ne_of_lt (Nat.lt_of_lt_of_le (by have := World.block_lt_of_cell? _ _ hw217_1; first | rwa [add_block] at this | exact this) GW221.out)) | (show (Addr.add _ _).block ≠ _; rw [add_block]; exact Nat.ne_of_lt (Nat.lt_of_lt_of_le (by have := World.block_lt_of_cell? _ _ hw217_1; first | rwa [add_block] at this | exact this) GW221.out)) | (dsimp only; exact Nat.ne_of_lt (Nat.lt_of_lt_of_le (by have := World.block_lt_of_cell? _ _ hw217_1; first | rwa [add_block] at this | exact this) GW221.out))) _).trans (hHeld.2.2.2.2.1)))))), ((cell_far (p := ⟨gb221, _, none⟩) (by first | exact Nat.ne_of_lt (Nat.lt_of_lt_of_le (by have := World.block_lt_of_cell? _ _ hw217_2; first | rwa [add_block] at this | exact this) GW221.out) | (rw [add_block]; exact Nat.ne_of_lt (Nat.lt_of_lt_of_le (by have := World.block_lt_of_cell? _ _ hw217_2; first | rwa [add_block] at this | exact this) GW221.out)) | (show (Addr.add _ _).block ≠ _; rw [add_block]; exact Nat.ne_of_lt (Nat.lt_of_lt_of_le (by have := World.block_lt_of_cell? _ _ hw217_2; first | rwa [add_block] at this | exact this) GW221.out)) | (dsimp only; exact Nat.ne_of_lt (Nat.lt_of_lt_of_le (by have := World.block_lt_of_cell? _ _ hw217_2; first | rwa [add_block] at this | exact this) GW221.out))) _).trans (((cell_far (p := ⟨gb221, _, none⟩) (by first | exact Nat.ne_of_lt (Nat.lt_of_lt_of_le (by have := World.block_lt_of_cell? _ _ hw217_2; first | rwa [add_block] at this | exact this) GW221.out) | (rw [add_block]; exact Nat.ne_of_lt (Nat.lt_of_lt_of_le (by have := World.block_lt_of_cell? _ _ hw217_2; first | rwa [add_block] at this | exact this) GW221.out)) | (show (Addr.add _ _).block ≠ _; rw [add_block]; exact Nat.ne_of_lt (Nat.lt_of_lt_of_le (by have := World.block_lt_of_cell? _ _ hw217_2; first | rwa [add_block] at this | exact this) GW221.out)) | (dsimp only; exact Nat.ne_of_lt (Nat.lt_of_lt_of_le (by have := World.block_lt_of_cell? _ _ hw217_2; first | rwa [add_block] at this | exact this) GW221.out))) _).trans (((cell_far (p := ⟨gb221, _, none⟩) (by first | exact Nat.ne_of_lt (Nat.lt_of_lt_of_le (by have := World.block_lt_of_cell? _ _ hw217_2; first | rwa [add_block] at this | exact this) GW221.out) | (rw [add_block]; exact Nat.ne_of_lt (Nat.lt_of_lt_of_le (by have := World.block_lt_of_cell? _ _ hw217_2; first | rwa [add_block] at this | exact this) GW221.out)) | (show (Addr.add _ _).block ≠ _; rw [add_block]; exact Nat.ne_of_lt (Nat.lt_of_lt_of_le (by have := World.block_lt_of_cell? _ _ hw217_2; first | rwa [add_block] at this | exact this) GW221.out)) | (dsimp only; exact Nat.ne_of_lt (Nat.lt_of_lt_of_le (by have := World.block_lt_of_cell? _ _ hw217_2; first | rwa [add_block] at this | exact this) GW221.out))) _).trans (hHeld.2.2.2.2.2))))))⟩ (fun hHeld => ?_)
                     clear hK K
                     refine one_ (i := 14) (N := none) zb5_40 rfl rfl (one_of HT_.out (by kernel_rfl)) (by decide) (fun K hK => ?_)
                     have hs62 : w58.cell? ⟨gb222, 0, none⟩ = some (.int .i64 0) := (blk_cell BK222.out 0).trans rfl
                     have hfs62 := blk_frozen BK222.out 0
                     have hns62_0 := NB221_222.out
                     have hms62_0 := NB222_221.out
                     have hs63 : w58.cell? ⟨gb222, 1, none⟩ = some (.int .i64 0) := (blk_cell BK222.out 1).trans rfl
                     have hfs63 := blk_frozen BK222.out 1
                     have hns63_0 := NB221_222.out
                     have hms63_0 := NB222_221.out
                     have hs64 : w58.cell? ⟨gb222, 2, none⟩ = some (.int .i64 0) := (blk_cell BK222.out 2).trans rfl
                     have hfs64 := blk_frozen BK222.out 2
                     have hns64_0 := NB221_222.out
                     have hms64_0 := NB222_221.out
                     refine skip_ (w1 := ?_) (by rfl) rfl ?_ ?_
                     rotate_left
                     ·go_simp
                      rfl
                     refine hK.out _ _ ⟨((cell_far (p := ⟨gb222, _, none⟩) (by first | exact Nat.ne_of_lt (Nat.lt_of_lt_of_le (by have := World.block_lt_of_cell? _ _ hw213_0; first | rwa [add_block] at this | exact this) GW222.out) | (rw [add_block]; exact Nat.ne_of_lt (Nat.lt_of_lt_of_le (by have := World.block_lt_of_cell? _ _ hw213_0; first | rwa [add_block] at this | exact this) GW222.out)) | (show (Addr.add _ _).block ≠ _; rw [add_block]; exact Nat.ne_of_lt (Nat.lt_of_lt_of_le (by have := World.block_lt_of_cell? _ _ hw213_0; first | rwa [add_block] at this | exact this) GW222.out)) | (dsimp only; exact Nat.ne_of_lt (Nat.lt_of_lt_of_le (by have := World.block_lt_of_cell? _ _ hw213_0; first | rwa [add_block] at this | exact this) GW222.out))) _).trans (((cell_far (p := ⟨gb222, _, none⟩) (by first | exact Nat.ne_of_lt (Nat.lt_of_lt_of_le (by have := World.block_lt_of_cell? _ _ hw213_0; first | rwa [add_block] at this | exact this) GW222.out) | (rw [add_block]; exact Nat.ne_of_lt (Nat.lt_of_lt_of_le (by have := World.block_lt_of_cell? _ _ hw213_0; first | rwa [add_block] at this | exact this) GW222.out)) | (show (Addr.add _ _).block ≠ _; rw [add_block]; exact Nat.ne_of_lt (Nat.lt_of_lt_of_le (by have := World.block_lt_of_cell? _ _ hw213_0; first | rwa [add_block] at this | exact this) GW222.out)) | (dsimp only; exact Nat.ne_of_lt (Nat.lt_of_lt_of_le (by have := World.block_lt_of_cell? _ _ hw213_0; first | rwa [add_block] at this | exact this) GW222.out))) _).trans (((cell_far (p := ⟨gb222, _, none⟩) (by first | exact Nat.ne_of_lt (Nat.lt_of_lt_of_le (by have := World.block_lt_of_cell? _ _ hw213_0; first | rwa [add_block] at this | exact this) GW222.out) | (rw [add_block]; exact Nat.ne_of_lt (Nat.lt_of_lt_of_le (by have := World.block_lt_of_cell? _ _ hw213_0; first | rwa [add_block] at this | exact this) GW222.out)) | (show (Addr.add _ _).block ≠ _; rw [add_block]; exact Nat.ne_of_lt (Nat.lt_of_lt_of_le (by have := World.block_lt_of_cell? _ _ hw213_0; first | rwa [add_block] at this | exact this) GW222.out)) | (dsimp only; exact Nat.ne_of_lt (Nat.lt_of_lt_of_le (by have := World.block_lt_of_cell? _ _ hw213_0; first | rwa [add_block] at this | exact this) GW222.out))) _).trans (hHeld.1)))))), ((cell_far (p := ⟨gb222, _, none⟩) (by first | exact Nat.ne_of_lt (Nat.lt_of_lt_of_le (by have := World.block_lt_of_cell? _ _ hw213_1; first | rwa [add_block] at this | exact this) GW222.out) | (rw [add_block]; exact Nat.ne_of_lt (Nat.lt_of_lt_of_le (by have := World.block_lt_of_cell? _ _ hw213_1; first | rwa [add_block] at this | exact this) GW222.out)) | (show (Addr.add _ _).block ≠ _; rw [add_block]; exact Nat.ne_of_lt (Nat.lt_of_lt_of_le (by have := World.block_lt_of_cell? _ _ hw213_1; first | rwa [add_block] at this | exact this) GW222.out)) | (dsimp only; exact Nat.ne_of_lt (Nat.lt_of_lt_of_le (by have := World.block_lt_of_cell? _ _ hw213_1; first | rwa [add_block] at this | exact this) GW222.out))) _).trans (((cell_far (p := ⟨gb222, _, none⟩) (by first | exact Nat.ne_of_lt (Nat.lt_of_lt_of_le (by have := World.block_lt_of_cell? _ _ hw213_1; first | rwa [add_block] at this | exact this) GW222.out) | (rw [add_block]; exact Nat.ne_of_lt (Nat.lt_of_lt_of_le (by have := World.block_lt_of_cell? _ _ hw213_1; first | rwa [add_block] at this | exact this) GW222.out)) | (show (Addr.add _ _).block ≠ _; rw [add_block]; exact Nat.ne_of_lt (Nat.lt_of_lt_of_le (by have := World.block_lt_of_cell? _ _ hw213_1; first | rwa [add_block] at this | exact this) GW222.out)) | (dsimp only; exact Nat.ne_of_lt (Nat.lt_of_lt_of_le (by have := World.block_lt_of_cell? _ _ hw213_1; first | rwa [add_block] at this | exact this) GW222.out))) _).trans (((cell_far (p := ⟨gb222, _, none⟩) (by first | exact Nat.ne_of_lt (Nat.lt_of_lt_of_le (by have := World.block_lt_of_cell? _ _ hw213_1; first | rwa [add_block] at this | exact this) GW222.out) | (rw [add_block]; exact Nat.ne_of_lt (Nat.lt_of_lt_of_le (by have := World.block_lt_of_cell? _ _ hw213_1; first | rwa [add_block] at this | exact this) GW222.out)) | (show (Addr.add _ _).block ≠ _; rw [add_block]; exact Nat.ne_of_lt (Nat.lt_of_lt_of_le (by have := World.block_lt_of_cell? _ _ hw213_1; first | rwa [add_block] at this | exact this) GW222.out)) | (dsimp only; exact Nat.ne_of_lt (Nat.lt_of_lt_of_le (by have := World.block_lt_of_cell? _ _ hw213_1; first | rwa [add_block] at this | exact this) GW222.out))) _).trans (hHeld.2.1)))))), ((cell_far (p := ⟨gb222, _, none⟩) (by first | exact Nat.ne_of_lt (Nat.lt_of_lt_of_le (by have := World.block_lt_of_cell? _ _ hw213_2; first | rwa [add_block] at this | exact this) GW222.out) | (rw [add_block]; exact Nat.ne_of_lt (Nat.lt_of_lt_of_le (by have := World.block_lt_of_cell? _ _ hw213_2; first | rwa [add_block] at this | exact this) GW222.out)) | (show (Addr.add _ _).block ≠ _; rw [add_block]; exact Nat.ne_of_lt (Nat.lt_of_lt_of_le (by have := World.block_lt_of_cell? _ _ hw213_2; first | rwa [add_block] at this | exact this) GW222.out)) | (dsimp only; exact Nat.ne_of_lt (Nat.lt_of_lt_of_le (by have := World.block_lt_of_cell? _ _ hw213_2; first | rwa [add_block] at this | exact this) GW222.out))) _).trans (((cell_far (p := ⟨gb222, _, none⟩) (by first | exact Nat.ne_of_lt (Nat.lt_of_lt_of_le (by have := World.block_lt_of_cell? _ _ hw213_2; first | rwa [add_block] at this | exact this) GW222.out) | (rw [add_block]; exact Nat.ne_of_lt (Nat.lt_of_lt_of_le (by have := World.block_lt_of_cell? _ _ hw213_2; first | rwa [add_block] at this | exact this) GW222.out)) | (show (Addr.add _ _).block ≠ _; rw [add_block]; exact Nat.ne_of_lt (Nat.lt_of_lt_of_le (by have := World.block_lt_of_cell? _ _ hw213_2; first | rwa [add_block] at this | exact this) GW222.out)) | (dsimp only; exact Nat.ne_of_lt (Nat.lt_of_lt_of_le (by have := World.block_lt_of_cell? _ _ hw213_2; first | rwa [add_block] at this | exact this) GW222.out))) _).trans (((cell_far (p := ⟨gb222, _, none⟩) (by first | exact Nat.ne_of_lt (Nat.lt_of_lt_of_le (by have := World.block_lt_of_cell? _ _ hw213_2; first | rwa [add_block] at this | exact this) GW222.out) | (rw [add_block]; exact Nat.ne_of_lt (Nat.lt_of_lt_of_le (by have := World.block_lt_of_cell? _ _ hw213_2; first | rwa [add_block] at this | exact this) GW222.out)) | (show (Addr.add _ _).block ≠ _; rw [add_block]; exact Nat.ne_of_lt (Nat.lt_of_lt_of_le (by have := World.block_lt_of_cell? _ _ hw213_2; first | rwa [add_block] at this | exact this) GW222.out)) | (dsimp only; exact Nat.ne_of_lt (Nat.lt_of_lt_of_le (by have := World.block_lt_of_cell? _ _ hw213_2; first | rwa [add_block] at this | exact this) GW222.out))) _).trans (hHeld.2.2.1)))))), ((cell_far (p := ⟨gb222, _, none⟩) (by first | exact Nat.ne_of_lt (Nat.lt_of_lt_of_le (by have := World.block_lt_of_cell? _ _ hw217_0; first | rwa [add_block] at this | exact this) GW222.out) | (rw [add_block]; exact Nat.ne_of_lt (Nat.lt_of_lt_of_le (by have := World.block_lt_of_cell? _ _ hw217_0; first | rwa [add_block] at this | exact this) GW222.out)) | (show (Addr.add _ _).block ≠ _; rw [add_block]; exact Nat.ne_of_lt (Nat.lt_of_lt_of_le (by have := World.block_lt_of_cell? _ _ hw217_0; first | rwa [add_block] at this | exact this) GW222.out)) | (dsimp only; exact Nat.ne_of_lt (Nat.lt_of_lt_of_le (by have := World.block_lt_of_cell? _ _ hw217_0; first | rwa [add_block] at this | exact this) GW222.out))) _).trans (((cell_far (p := ⟨gb222, _, none⟩) (by first | exact Nat.ne_of_lt (Nat.lt_of_lt_of_le (by have := World.block_lt_of_cell? _ _ hw217_0; first | rwa [add_block] at this | exact this) GW222.out) | (rw [add_block]; exact Nat.ne_of_lt (Nat.lt_of_lt_of_le (by have := World.block_lt_of_cell? _ _ hw217_0; first | rwa [add_block] at this | exact this) GW222.out)) | (show (Addr.add _ _).block ≠ _; rw [add_block]; exact Nat.ne_of_lt (Nat.lt_of_lt_of_le (by have := World.block_lt_of_cell? _ _ hw217_0; first | rwa [add_block] at this | exact this) GW222.out)) | (dsimp only; exact Nat.ne_of_lt (Nat.lt_of_lt_of_le (by have := World.block_lt_of_cell? _ _ hw217_0; first | rwa [add_block] at this | exact this) GW222.out))) _).trans (((cell_far (p := ⟨gb222, _, none⟩) (by first | exact Nat.ne_of_lt (Nat.lt_of_lt_of_le (by have := World.block_lt_of_cell? _ _ hw217_0; first | rwa [add_block] at this | exact this) GW222.out) | (rw [add_block]; exact Nat.ne_of_lt (Nat.lt_of_lt_of_le (by have := World.block_lt_of_cell? _ _ hw217_0; first | rwa [add_block] at this | exact this) GW222.out)) | (show (Addr.add _ _).block ≠ _; rw [add_block]; exact Nat.ne_of_lt (Nat.lt_of_lt_of_le (by have := World.block_lt_of_cell? _ _ hw217_0; first | rwa [add_block] at this | exact this) GW222.out)) | (dsimp only; exact Nat.ne_of_lt (Nat.lt_of_lt_of_le (by have := World.block_lt_of_cell? _ _ hw217_0; first | rwa [add_block] at this | exact this) GW222.out))) _).trans (hHeld.2.2.2.1)))))), ((cell_far (p := ⟨gb222, _, none⟩) (by first | exact Nat.ne_of_lt (Nat.lt_of_lt_of_le (by have := World.block_lt_of_cell? _ _ hw217_1; first | rwa [add_block] at this | exact this) GW222.out) | (rw [add_block]; exact Nat.ne_of_lt (Nat.lt_of_lt_of_le (by have := World.block_lt_of_cell? _ _ hw217_1; first | rwa [add_block] at this | exact this) GW222.out)) | (show (Addr.add _ _).block ≠ _; rw [add_block]; exact Nat.ne_of_lt (Nat.lt_of_lt_of_le (by have := World.block_lt_of_cell? _ _ hw217_1; first | rwa [add_block] at this | exact this) GW222.out)) | (dsimp only; exact Nat.ne_of_lt (Nat.lt_of_lt_of_le (by have := World.block_lt_of_cell? _ _ hw217_1; first | rwa [add_block] at this | exact this) GW222.out))) _).trans (((cell_far (p := ⟨gb222, _, none⟩) (by first | exact Nat.ne_of_lt (Nat.lt_of_lt_of_le (by have := World.block_lt_of_cell? _ _ hw217_1; first | rwa [add_block] at this | exact this) GW222.out) | (rw [add_block]; exact Nat.ne_of_lt (Nat.lt_of_lt_of_le (by have := World.block_lt_of_cell? _ _ hw217_1; first | rwa [add_block] at this | exact this) GW222.out)) | (show (Addr.add _ _).block ≠ _; rw [add_block]; exact Nat.ne_of_lt (Nat.lt_of_lt_of_le (by have := World.block_lt_of_cell? _ _ hw217_1; first | rwa [add_block] at this | exact this) GW222.out)) | (dsimp only; exact Nat.ne_of_lt (Nat.lt_of_lt_of_le (by have := World.block_lt_of_cell? _ _ hw217_1; first | rwa [add_block] at this | exact this) GW222.out))) _).trans (((cell_far (p := ⟨gb222, _, none⟩) (by first | exact Nat.ne_of_lt (Nat.lt_of_lt_of_le (by have := World.block_lt_of_cell? _ _ hw217_1; first | rwa [add_block] at this | exact this) GW222.out) | (rw [add_block]; exact Nat.ne_of_lt (Nat.lt_of_lt_of_le (by have := World.block_lt_of_cell? _ _ hw217_1; first | rwa [add_block] at this | exact this) GW222.out)) | (show (Addr.add _ _).block ≠ _; rw [add_block]; exact Nat.ne_of_lt (Nat.lt_of_lt_of_le (by have := World.block_lt_of_cell? _ _ hw217_1; first | rwa [add_block] at this | exact this) GW222.out)) | (dsimp only; exact Nat.ne_of_lt (Nat.lt_of_lt_of_le (by have := World.block_lt_of_cell? _ _ hw217_1; first | rwa [add_block] at this | exact this) GW222.out))) _).trans (hHeld.2.2.2.2.1)))))), ((cell_far (p := ⟨gb222, _, none⟩) (by first | exact Nat.ne_of_lt (Nat.lt_of_lt_of_le (by have := World.block_lt_of_cell? _ _ hw217_2; first | rwa [add_block] at this | exact this) GW222.out) | (rw [add_block]; exact Nat.ne_of_lt (Nat.lt_of_lt_of_le (by have := World.block_lt_of_cell? _ _ hw217_2; first | rwa [add_block] at this | exact this) GW222.out)) | (show (Addr.add _ _).block ≠ _; rw [add_block]; exact Nat.ne_of_lt (Nat.lt_of_lt_of_le (by have := World.block_lt_of_cell? _ _ hw217_2; first | rwa [add_block] at this | exact this) GW222.out)) | (dsimp only; exact Nat.ne_of_lt (Nat.lt_of_lt_of_le (by have := World.block_lt_of_cell? _ _ hw217_2; first | rwa [add_block] at this | exact this) GW222.out))) _).trans (((cell_far (p := ⟨gb222, _, none⟩) (by first | exact Nat.ne_of_lt (Nat.lt_of_lt_of_le (by have := World.block_lt_of_cell? _ _ hw217_2; first | rwa [add_block] at this | exact this) GW222.out) | (rw [add_block]; exact Nat.ne_of_lt (Nat.lt_of_lt_of_le (by have := World.block_lt_of_cell? _ _ hw217_2; first | rwa [add_block] at this | exact this) GW222.out)) | (show (Addr.add _ _).block ≠ _; rw [add_block]; exact Nat.ne_of_lt (Nat.lt_of_lt_of_le (by have := World.block_lt_of_cell? _ _ hw217_2; first | rwa [add_block] at this | exact this) GW222.out)) | (dsimp only; exact Nat.ne_of_lt (Nat.lt_of_lt_of_le (by have := World.block_lt_of_cell? _ _ hw217_2; first | rwa [add_block] at this | exact this) GW222.out))) _).trans (((cell_far (p := ⟨gb222, _, none⟩) (by first | exact Nat.ne_of_lt (Nat.lt_of_lt_of_le (by have := World.block_lt_of_cell? _ _ hw217_2; first | rwa [add_block] at this | exact this) GW222.out) | (rw [add_block]; exact Nat.ne_of_lt (Nat.lt_of_lt_of_le (by have := World.block_lt_of_cell? _ _ hw217_2; first | rwa [add_block] at this | exact this) GW222.out)) | (show (Addr.add _ _).block ≠ _; rw [add_block]; exact Nat.ne_of_lt (Nat.lt_of_lt_of_le (by have := World.block_lt_of_cell? _ _ hw217_2; first | rwa [add_block] at this | exact this) GW222.out)) | (dsimp only; exact Nat.ne_of_lt (Nat.lt_of_lt_of_le (by have := World.block_lt_of_cell? _ _ hw217_2; first | rwa [add_block] at this | exact this) GW222.out))) _).trans (hHeld.2.2.2.2.2))))))⟩ (fun hHeld => ?_)
                     clear hK K
                     refine done_ (done_of HT_.out (by kernel_rfl)) ?_
                     have hnb65 := NB221_222.out
                     have hnc65 := NB222_221.out
                     have hcz66_0 : w58.cell? ⟨gb221, 0, none⟩ = some (.int .i64 0) := (blk_cell BK221.out 0).trans rfl
                     have hcz66_1 : w58.cell? ⟨gb221, 1, none⟩ = some (.int .i64 0) := (blk_cell BK221.out 1).trans rfl
                     have hcz66_2 : w58.cell? ⟨gb221, 2, none⟩ = some (.int .i64 0) := (blk_cell BK221.out 2).trans rfl
                     have hfz66_0 := blk_frozen BK221.out 0
                     have hfz66_1 := blk_frozen BK221.out 1
                     have hfz66_2 := blk_frozen BK221.out 2
                     have hcz67_0 : w58.cell? ⟨gb222, 0, none⟩ = some (.int .i64 0) := (blk_cell BK222.out 0).trans rfl
                     have hcz67_1 : w58.cell? ⟨gb222, 1, none⟩ = some (.int .i64 0) := (blk_cell BK222.out 1).trans rfl
                     have hcz67_2 : w58.cell? ⟨gb222, 2, none⟩ = some (.int .i64 0) := (blk_cell BK222.out 2).trans rfl
                     have hfz67_0 := blk_frozen BK222.out 0
                     have hfz67_1 := blk_frozen BK222.out 1
                     have hfz67_2 := blk_frozen BK222.out 2
                     have H := H'.out
                     clear H'
                     by_cases c51 : x10_3 = true
                     ·subst c51
                      have H1 : (if t214 < t218 then (lodestonelaw25_SchemaGets.l1 kj34 l0 a1 (x5_1 ++ (a1.extract 0 ((ji26) : Int).toNat)) t204 t205 true x11_34 (wrap64 (x12_3 + 1))) else (if t214 = t218 then (lodestonelaw25_SchemaGets.l1 kj34 l0 a1 (x5_1 ++ (a1.extract 0 ((ji26) : Int).toNat)) t204 t205 (decide (t215 < t219)) x11_34 (wrap64 (x12_3 + 1))) else (lodestonelaw25_SchemaGets.l1 kj34 l0 a1 (x5_1 ++ (a1.extract 0 ((ji26) : Int).toNat)) t204 t205 false x11_34 (wrap64 (x12_3 + 1))))) = some r := by rw [if_pos rfl] at H; exact H
                      clear H
                      have H := H1
                      clear H1
                      by_cases c52 : t214 < t218
                      ·rw [if_pos c52] at H
                       have c52b0 : decide (t214 < t218) = true := decide_eq_true c52
                       clear c52
                       have H' := Aside0.mk H
                       clear H
                       try go_wp2
                       go_roundg kj34
                       case measure => have := HK1.out; have := HJ5.out; have := HK3.out; have := HJ31.out; have := HJ34.out; omega
                       case rel => exact ⟨(true), (x11_34), (wrap64 (x12_3 + 1)), (by first | rfl | (simp; done) | (simp [*]; done)), (by first | rfl | (simp; done) | (simp [*]; done)), (by first | rfl | (simp; done) | (simp [*]; done)), H', ⟨by have := HK1.out; have := HJ5.out; have := HK3.out; have := HJ31.out; have := HJ34.out; omega⟩, ⟨by (with_reducible repeat (first | apply Kd.R_alloc | apply Kd.R_drewN | apply Kd.R_drew)); exact Kd.R_mono (Kd.R_far (p := ⟨gb222, 2, none⟩) (Kd.R_far (p := ⟨gb222, 1, none⟩) (Kd.R_far (p := ⟨gb222, 0, none⟩) (Kd.R_far (p := ⟨gb221, 2, none⟩) (Kd.R_far (p := ⟨gb221, 1, none⟩) (Kd.R_far (p := ⟨gb221, 0, none⟩) (Kd.R_mono (Kd.R_mono HO_8.out (fun k_ hk => (⟨hk, hk.1⟩ : _ ∧ k_ ≠ gb221))) (fun k_ hk => (⟨hk, hk.1.2⟩ : _ ∧ k_ ≠ gb222))) (fun _ hk => hk.1.2) (.int .i64 t214)) (fun _ hk => hk.1.2) (.int .i64 t215)) (fun _ hk => hk.1.2) (.int .i64 t216)) (fun _ hk => hk.2) (.int .i64 t218)) (fun _ hk => hk.2) (.int .i64 t219)) (fun _ hk => hk.2) (.int .i64 t220)) (fun _ hk => trivial)⟩, ⟨by repeat (first | (with_reducible first | exact HB.out | apply below_alloc | apply pw_below_drewN | apply below_drew1 | refine below_set ?_ GE221.out | refine below_set ?_ GE222.out) | exact HB.out)⟩⟩
                      ·rw [if_neg c52] at H
                       have c52b0 : decide (t214 < t218) = false := decide_eq_false c52
                       clear c52
                       by_cases c68 : t214 = t218
                       ·rw [if_pos c68] at H
                        have c68b0 : (t214 == t218) = true := beq_iff_eq.mpr c68
                        have c68b1 : (t214 != t218) = false := bne_eq_false_iff_eq.mpr c68
                        clear c68
                        have H' := Aside0.mk H
                        clear H
                        try go_wp2
                        go_roundg kj34
                        case measure => have := HK1.out; have := HJ5.out; have := HK3.out; have := HJ31.out; have := HJ34.out; omega
                        case rel => exact ⟨(decide (t215 < t219)), (x11_34), (wrap64 (x12_3 + 1)), (by first | rfl | (simp; done) | (simp [*]; done)), (by first | rfl | (simp; done) | (simp [*]; done)), (by first | rfl | (simp; done) | (simp [*]; done)), H', ⟨by have := HK1.out; have := HJ5.out; have := HK3.out; have := HJ31.out; have := HJ34.out; omega⟩, ⟨by (with_reducible repeat (first | apply Kd.R_alloc | apply Kd.R_drewN | apply Kd.R_drew)); exact Kd.R_mono (Kd.R_far (p := ⟨gb222, 2, none⟩) (Kd.R_far (p := ⟨gb222, 1, none⟩) (Kd.R_far (p := ⟨gb222, 0, none⟩) (Kd.R_far (p := ⟨gb221, 2, none⟩) (Kd.R_far (p := ⟨gb221, 1, none⟩) (Kd.R_far (p := ⟨gb221, 0, none⟩) (Kd.R_mono (Kd.R_mono HO_8.out (fun k_ hk => (⟨hk, hk.1⟩ : _ ∧ k_ ≠ gb221))) (fun k_ hk => (⟨hk, hk.1.2⟩ : _ ∧ k_ ≠ gb222))) (fun _ hk => hk.1.2) (.int .i64 t214)) (fun _ hk => hk.1.2) (.int .i64 t215)) (fun _ hk => hk.1.2) (.int .i64 t216)) (fun _ hk => hk.2) (.int .i64 t218)) (fun _ hk => hk.2) (.int .i64 t219)) (fun _ hk => hk.2) (.int .i64 t220)) (fun _ hk => trivial)⟩, ⟨by repeat (first | (with_reducible first | exact HB.out | apply below_alloc | apply pw_below_drewN | apply below_drew1 | refine below_set ?_ GE221.out | refine below_set ?_ GE222.out) | exact HB.out)⟩⟩
                       ·rw [if_neg c68] at H
                        have c68b0 : (t214 == t218) = false := beq_eq_false_iff_ne.mpr c68
                        have c68b1 : (t214 != t218) = true := bne_iff_ne.mpr c68
                        have H' := Aside0.mk H
                        clear H
                        try go_wp2
                        go_roundg kj34
                        case measure => have := HK1.out; have := HJ5.out; have := HK3.out; have := HJ31.out; have := HJ34.out; omega
                        case rel => exact ⟨(false), (x11_34), (wrap64 (x12_3 + 1)), (by first | rfl | (simp; done) | (simp [*]; done)), (by first | rfl | (simp; done) | (simp [*]; done)), (by first | rfl | (simp; done) | (simp [*]; done)), H', ⟨by have := HK1.out; have := HJ5.out; have := HK3.out; have := HJ31.out; have := HJ34.out; omega⟩, ⟨by (with_reducible repeat (first | apply Kd.R_alloc | apply Kd.R_drewN | apply Kd.R_drew)); exact Kd.R_mono (Kd.R_far (p := ⟨gb222, 2, none⟩) (Kd.R_far (p := ⟨gb222, 1, none⟩) (Kd.R_far (p := ⟨gb222, 0, none⟩) (Kd.R_far (p := ⟨gb221, 2, none⟩) (Kd.R_far (p := ⟨gb221, 1, none⟩) (Kd.R_far (p := ⟨gb221, 0, none⟩) (Kd.R_mono (Kd.R_mono HO_8.out (fun k_ hk => (⟨hk, hk.1⟩ : _ ∧ k_ ≠ gb221))) (fun k_ hk => (⟨hk, hk.1.2⟩ : _ ∧ k_ ≠ gb222))) (fun _ hk => hk.1.2) (.int .i64 t214)) (fun _ hk => hk.1.2) (.int .i64 t215)) (fun _ hk => hk.1.2) (.int .i64 t216)) (fun _ hk => hk.2) (.int .i64 t218)) (fun _ hk => hk.2) (.int .i64 t219)) (fun _ hk => hk.2) (.int .i64 t220)) (fun _ hk => trivial)⟩, ⟨by repeat (first | (with_reducible first | exact HB.out | apply below_alloc | apply pw_below_drewN | apply below_drew1 | refine below_set ?_ GE221.out | refine below_set ?_ GE222.out) | exact HB.out)⟩⟩
                     ·replace c51 := Bool.eq_false_iff.mpr c51
                      subst c51
                      have H1 : (lodestonelaw25_SchemaGets.l1 kj34 l0 a1 (x5_1 ++ (a1.extract 0 ((ji26) : Int).toNat)) t204 t205 false x11_34 (wrap64 (x12_3 + 1))) = some r := by rw [if_neg (show ¬ (false = true) by decide)] at H; exact H
                      clear H
                      have H := H1
                      clear H1
                      have H' := Aside0.mk H
                      clear H
                      try go_wp2
                      go_roundg kj34
                      case measure => have := HK1.out; have := HJ5.out; have := HK3.out; have := HJ31.out; have := HJ34.out; omega
                      case rel => exact ⟨(false), (x11_34), (wrap64 (x12_3 + 1)), (by first | rfl | (simp; done) | (simp [*]; done)), (by first | rfl | (simp; done) | (simp [*]; done)), (by first | rfl | (simp; done) | (simp [*]; done)), H', ⟨by have := HK1.out; have := HJ5.out; have := HK3.out; have := HJ31.out; have := HJ34.out; omega⟩, ⟨by (with_reducible repeat (first | apply Kd.R_alloc | apply Kd.R_drewN | apply Kd.R_drew)); exact Kd.R_mono (Kd.R_far (p := ⟨gb222, 2, none⟩) (Kd.R_far (p := ⟨gb222, 1, none⟩) (Kd.R_far (p := ⟨gb222, 0, none⟩) (Kd.R_far (p := ⟨gb221, 2, none⟩) (Kd.R_far (p := ⟨gb221, 1, none⟩) (Kd.R_far (p := ⟨gb221, 0, none⟩) (Kd.R_mono (Kd.R_mono HO_8.out (fun k_ hk => (⟨hk, hk.1⟩ : _ ∧ k_ ≠ gb221))) (fun k_ hk => (⟨hk, hk.1.2⟩ : _ ∧ k_ ≠ gb222))) (fun _ hk => hk.1.2) (.int .i64 t214)) (fun _ hk => hk.1.2) (.int .i64 t215)) (fun _ hk => hk.1.2) (.int .i64 t216)) (fun _ hk => hk.2) (.int .i64 t218)) (fun _ hk => hk.2) (.int .i64 t219)) (fun _ hk => hk.2) (.int .i64 t220)) (fun _ hk => trivial)⟩, ⟨by repeat (first | (with_reducible first | exact HB.out | apply below_alloc | apply pw_below_drewN | apply below_drew1 | refine below_set ?_ GE221.out | refine below_set ?_ GE222.out) | exact HB.out)⟩⟩
                    ·rw [if_neg c49] at H
                     exact absurd H (by simp)
                   ·rw [if_neg c48] at H
                    exact absurd H (by simp)
                  ·rw [if_neg c46] at H
                   exact absurd H (by simp)
                 ·rw [if_neg c45] at H
                  exact absurd H (by simp)
                ·rw [if_neg c43] at H
                 have c43b0 : decide (0 < x12_3) = false := decide_eq_false c43
                 clear c43
                 have H' := Aside0.mk H
                 clear H
                 go_wp2
                 go_roundg kj34
                 case measure => have := HK1.out; have := HJ5.out; have := HK3.out; have := HJ31.out; have := HJ34.out; omega
                 case rel => exact ⟨(x10_3), (x11_34), (wrap64 (x12_3 + 1)), (by first | rfl | (simp; done) | (simp [*]; done)), (by first | rfl | (simp; done) | (simp [*]; done)), (by first | rfl | (simp; done) | (simp [*]; done)), H', ⟨by have := HK1.out; have := HJ5.out; have := HK3.out; have := HJ31.out; have := HJ34.out; omega⟩, ⟨by (with_reducible repeat (first | apply Kd.R_alloc | apply Kd.R_drewN | apply Kd.R_drew)); exact HO_8.out⟩, ⟨by repeat (first | (with_reducible first | exact HB.out | apply below_alloc | apply pw_below_drewN | apply below_drew1) | exact HB.out)⟩⟩
             ·replace c34 := Bool.eq_false_iff.mpr c34
              subst c34
              have H1 : (if t205 = 0 then ((lodestonelaw25_awake.f).bind fun t223 => (if t223 = true then (if a1.toList = ([] : List UInt8) then (if x10_3 = true then (if x11_3 = true then ((schema_Put.f kj31 t204).bind fun t224 => (some (t224.toList == (x5_1 ++ (a1.extract 0 ((ji26) : Int).toNat)).toList))) else (some false)) else (some false)) else (some false)) else (some false))) else ((lodestonelaw25_awake.f).bind fun t225 => (if t225 = true then (if (t204.length : Int) = 0 then (if a1.toList = ([] : List UInt8) then (if x10_3 = true then (some (!x11_3)) else (some true)) else (some true)) else (some false)) else (some false)))) = some r := by rw [if_neg (show ¬ (false = true) by decide)] at H; exact H
              clear H
              have H := H1
              clear H1
              by_cases c111 : t205 = 0
              ·rw [if_pos c111] at H
               have c111b0 : (t205 == 0) = true := beq_iff_eq.mpr c111
               have c111b1 : (t205 != 0) = false := bne_eq_false_iff_eq.mpr c111
               clear c111
               replace H := Option.bind_eq_some_iff.mp H
               obtain ⟨t223, A1120, H⟩ := H
               replace H : (if t223 = true then (if a1.toList = ([] : List UInt8) then (if x10_3 = true then (if x11_3 = true then ((schema_Put.f kj31 t204).bind fun t224 => (some (t224.toList == (x5_1 ++ (a1.extract 0 ((ji26) : Int).toNat)).toList))) else (some false)) else (some false)) else (some false)) else (some false)) = some r := H
               have A112 := Aside0.mk A1120
               clear A1120
               by_cases c113 : t223 = true
               ·subst c113
                have H1 : (if a1.toList = ([] : List UInt8) then (if x10_3 = true then (if x11_3 = true then ((schema_Put.f kj31 t204).bind fun t224 => (some (t224.toList == (x5_1 ++ (a1.extract 0 ((ji26) : Int).toNat)).toList))) else (some false)) else (some false)) else (some false)) = some r := by rw [if_pos rfl] at H; exact H
                clear H
                have H := H1
                clear H1
                by_cases c114 : a1.toList = ([] : List UInt8)
                ·rw [if_pos c114] at H
                 have c114f : a1.toList.isEmpty = true := by first | (rw [c114]; rfl) | (cases hh_ : a1.toList with | nil => exact absurd hh_ c114 | cons _ _ => rfl)
                 have c114b0 : (a1.toList == ([] : List UInt8)) = true := beq_iff_eq.mpr c114
                 have c114b1 : (a1.toList != ([] : List UInt8)) = false := bne_eq_false_iff_eq.mpr c114
                 clear c114
                 by_cases c115 : x10_3 = true
                 ·subst c115
                  have H1 : (if x11_3 = true then ((schema_Put.f kj31 t204).bind fun t224 => (some (t224.toList == (x5_1 ++ (a1.extract 0 ((ji26) : Int).toNat)).toList))) else (some false)) = some r := by rw [if_pos rfl] at H; exact H
                  clear H
                  have H := H1
                  clear H1
                  by_cases c116 : x11_3 = true
                  ·subst c116
                   have H1 : ((schema_Put.f kj31 t204).bind fun t224 => (some (t224.toList == (x5_1 ++ (a1.extract 0 ((ji26) : Int).toNat)).toList))) = some r := by rw [if_pos rfl] at H; exact H
                   clear H
                   have H := H1
                   clear H1
                   replace H := Option.bind_eq_some_iff.mp H
                   obtain ⟨t224, A1170, H⟩ := H
                   replace H : (some (t224.toList == (x5_1 ++ (a1.extract 0 ((ji26) : Int).toNat)).toList)) = some r := H
                   have A117 := Aside0.mk A1170
                   clear A1170
                   obtain rfl := Option.some.inj H
                   go_wp2_with (first | ((with_reducible refine gate_callee (f := 9) rfl ?_); refine goesL_ (some 137) rfl rfl Try.func9 (by kernel_rfl) rfl #[] rfl (by (try simp only [List.map_toArray, List.map_cons, List.map_nil]); first | done | rfl | (simp only [List.length_drop, List.length_take]; rfl)) ?_; (with_reducible refine (lodestonelaw25_awake.calls  true _ A112.out).mono ?_); rintro e w118 ⟨rfl, hb⟩; refine ⟨_, rfl, ?_⟩; have n0_ := Aside0.mk (Kd.R_below (by (with_reducible repeat (first | apply Kd.R_alloc | apply Kd.R_drewN | apply Kd.R_drew)); exact HO_8.out) hb); have n1_ := Aside0.mk (below_step (by repeat (first | (with_reducible first | exact HB.out | apply below_alloc | apply pw_below_drewN | apply below_drew1) | exact HB.out)) hb); clear HO_8; clear HB; have HO_8 := n0_; have HB := n1_; clear n0_ n1_; (try clear hb); (try clear hb2); (try clear hk); (try clear hi); obtain ⟨Ao119, co119, eo119⟩ := Kd.R_slice HO_8.out; subst eo119) | (go_at_call 10; (with_reducible refine (schema_Put.calls kj31 _ _ t204 t224 _ ?side1 ?side2 A117.out).mono ?_); (case side1 => repeat (first | exact (Kd.R_reads' HO_8.out).2.2 | (with_reducible refine Kd.C_alloc ?_ _) | (with_reducible refine Kd.C_drewN ?_ _) | (with_reducible refine Kd.C_drew ?_))); (case side2 => exact (Kd.R_reads' HO_8.out).2.1); rintro e w120 ⟨rfl, hb⟩; have n0_ := Aside0.mk (Kd.R_below (by (with_reducible repeat (first | apply Kd.R_alloc | apply Kd.R_drewN | apply Kd.R_drew)); exact HO_8.out) hb); have n1_ := Aside0.mk (below_step (by repeat (first | (with_reducible first | exact HB.out | apply below_alloc | apply pw_below_drewN | apply below_drew1) | exact HB.out)) hb); clear HO_8; clear HB; have HO_8 := n0_; have HB := n1_; clear n0_ n1_; (try clear hb); (try clear hb2); (try clear hk); (try clear hi)))
                   go_ret
                   exact ⟨by first | rfl | (simp [errW_none, errW_some] <;> rfl) | (simp only [← hji3, ← hji26]; first | rfl | (simp [errW_none, errW_some] <;> rfl)) | (simp [*, errW_none, errW_some] <;> rfl), by repeat (first | (with_reducible first | exact HB.out | apply below_alloc | apply pw_below_drewN | apply below_drew1) | exact HB.out)⟩
                  ·replace c116 := Bool.eq_false_iff.mpr c116
                   subst c116
                   have H1 : (some false) = some r := by rw [if_neg (show ¬ (false = true) by decide)] at H; exact H
                   clear H
                   have H := H1
                   clear H1
                   obtain rfl := Option.some.inj H
                   go_wp2_with (first | ((with_reducible refine gate_callee (f := 9) rfl ?_); refine goesL_ (some 137) rfl rfl Try.func9 (by kernel_rfl) rfl #[] rfl (by (try simp only [List.map_toArray, List.map_cons, List.map_nil]); first | done | rfl | (simp only [List.length_drop, List.length_take]; rfl)) ?_; (with_reducible refine (lodestonelaw25_awake.calls  true _ A112.out).mono ?_); rintro e w121 ⟨rfl, hb⟩; refine ⟨_, rfl, ?_⟩; have n0_ := Aside0.mk (Kd.R_below (by (with_reducible repeat (first | apply Kd.R_alloc | apply Kd.R_drewN | apply Kd.R_drew)); exact HO_8.out) hb); have n1_ := Aside0.mk (below_step (by repeat (first | (with_reducible first | exact HB.out | apply below_alloc | apply pw_below_drewN | apply below_drew1) | exact HB.out)) hb); clear HO_8; clear HB; have HO_8 := n0_; have HB := n1_; clear n0_ n1_; (try clear hb); (try clear hb2); (try clear hk); (try clear hi)))
                   go_ret
                   exact ⟨by first | rfl | (simp [errW_none, errW_some] <;> rfl) | (simp only [← hji3, ← hji26]; first | rfl | (simp [errW_none, errW_some] <;> rfl)) | (simp [*, errW_none, errW_some] <;> rfl), by repeat (first | (with_reducible first | exact HB.out | apply below_alloc | apply pw_below_drewN | apply below_drew1) | exact HB.out)⟩
                 ·replace c115 := Bool.eq_false_iff.mpr c115
                  subst c115
                  have H1 : (some false) = some r := by rw [if_neg (show ¬ (false = true) by decide)] at H; exact H
                  clear H
                  have H := H1
                  clear H1
                  obtain rfl := Option.some.inj H
                  go_wp2_with (first | ((with_reducible refine gate_callee (f := 9) rfl ?_); refine goesL_ (some 137) rfl rfl Try.func9 (by kernel_rfl) rfl #[] rfl (by (try simp only [List.map_toArray, List.map_cons, List.map_nil]); first | done | rfl | (simp only [List.length_drop, List.length_take]; rfl)) ?_; (with_reducible refine (lodestonelaw25_awake.calls  true _ A112.out).mono ?_); rintro e w122 ⟨rfl, hb⟩; refine ⟨_, rfl, ?_⟩; have n0_ := Aside0.mk (Kd.R_below (by (with_reducible repeat (first | apply Kd.R_alloc | apply Kd.R_drewN | apply Kd.R_drew)); exact HO_8.out) hb); have n1_ := Aside0.mk (below_step (by repeat (first | (with_reducible first | exact HB.out | apply below_alloc | apply pw_below_drewN | apply below_drew1) | exact HB.out)) hb); clear HO_8; clear HB; have HO_8 := n0_; have HB := n1_; clear n0_ n1_; (try clear hb); (try clear hb2); (try clear hk); (try clear hi)))
                  go_ret
                  exact ⟨by first | rfl | (simp [errW_none, errW_some] <;> rfl) | (simp only [← hji3, ← hji26]; first | rfl | (simp [errW_none, errW_some] <;> rfl)) | (simp [*, errW_none, errW_some] <;> rfl), by repeat (first | (with_reducible first | exact HB.out | apply below_alloc | apply pw_below_drewN | apply below_drew1) | exact HB.out)⟩
                ·rw [if_neg c114] at H
                 have c114f : a1.toList.isEmpty = false := by first | (rw [c114]; rfl) | (cases hh_ : a1.toList with | nil => exact absurd hh_ c114 | cons _ _ => rfl)
                 have c114b0 : (a1.toList == ([] : List UInt8)) = false := beq_eq_false_iff_ne.mpr c114
                 have c114b1 : (a1.toList != ([] : List UInt8)) = true := bne_iff_ne.mpr c114
                 obtain rfl := Option.some.inj H
                 go_wp2_with (first | ((with_reducible refine gate_callee (f := 9) rfl ?_); refine goesL_ (some 137) rfl rfl Try.func9 (by kernel_rfl) rfl #[] rfl (by (try simp only [List.map_toArray, List.map_cons, List.map_nil]); first | done | rfl | (simp only [List.length_drop, List.length_take]; rfl)) ?_; (with_reducible refine (lodestonelaw25_awake.calls  true _ A112.out).mono ?_); rintro e w123 ⟨rfl, hb⟩; refine ⟨_, rfl, ?_⟩; have n0_ := Aside0.mk (Kd.R_below (by (with_reducible repeat (first | apply Kd.R_alloc | apply Kd.R_drewN | apply Kd.R_drew)); exact HO_8.out) hb); have n1_ := Aside0.mk (below_step (by repeat (first | (with_reducible first | exact HB.out | apply below_alloc | apply pw_below_drewN | apply below_drew1) | exact HB.out)) hb); clear HO_8; clear HB; have HO_8 := n0_; have HB := n1_; clear n0_ n1_; (try clear hb); (try clear hb2); (try clear hk); (try clear hi)))
                 go_ret
                 exact ⟨by first | rfl | (simp [errW_none, errW_some] <;> rfl) | (simp only [← hji3, ← hji26]; first | rfl | (simp [errW_none, errW_some] <;> rfl)) | (simp [*, errW_none, errW_some] <;> rfl), by repeat (first | (with_reducible first | exact HB.out | apply below_alloc | apply pw_below_drewN | apply below_drew1) | exact HB.out)⟩
               ·replace c113 := Bool.eq_false_iff.mpr c113
                subst c113
                have H1 : (some false) = some r := by rw [if_neg (show ¬ (false = true) by decide)] at H; exact H
                clear H
                have H := H1
                clear H1
                obtain rfl := Option.some.inj H
                go_wp2_with (first | ((with_reducible refine gate_callee (f := 9) rfl ?_); refine goesL_ (some 137) rfl rfl Try.func9 (by kernel_rfl) rfl #[] rfl (by (try simp only [List.map_toArray, List.map_cons, List.map_nil]); first | done | rfl | (simp only [List.length_drop, List.length_take]; rfl)) ?_; (with_reducible refine (lodestonelaw25_awake.calls  false _ A112.out).mono ?_); rintro e w124 ⟨rfl, hb⟩; refine ⟨_, rfl, ?_⟩; have n0_ := Aside0.mk (Kd.R_below (by (with_reducible repeat (first | apply Kd.R_alloc | apply Kd.R_drewN | apply Kd.R_drew)); exact HO_8.out) hb); have n1_ := Aside0.mk (below_step (by repeat (first | (with_reducible first | exact HB.out | apply below_alloc | apply pw_below_drewN | apply below_drew1) | exact HB.out)) hb); clear HO_8; clear HB; have HO_8 := n0_; have HB := n1_; clear n0_ n1_; (try clear hb); (try clear hb2); (try clear hk); (try clear hi)))
                go_ret
                exact ⟨by first | rfl | (simp [errW_none, errW_some] <;> rfl) | (simp only [← hji3, ← hji26]; first | rfl | (simp [errW_none, errW_some] <;> rfl)) | (simp [*, errW_none, errW_some] <;> rfl), by repeat (first | (with_reducible first | exact HB.out | apply below_alloc | apply pw_below_drewN | apply below_drew1) | exact HB.out)⟩
              ·rw [if_neg c111] at H
               have c111b0 : (t205 == 0) = false := beq_eq_false_iff_ne.mpr c111
               have c111b1 : (t205 != 0) = true := bne_iff_ne.mpr c111
               replace H := Option.bind_eq_some_iff.mp H
               obtain ⟨t225, A1250, H⟩ := H
               replace H : (if t225 = true then (if (t204.length : Int) = 0 then (if a1.toList = ([] : List UInt8) then (if x10_3 = true then (some (!x11_3)) else (some true)) else (some true)) else (some false)) else (some false)) = some r := H
               have A125 := Aside0.mk A1250
               clear A1250
               by_cases c126 : t225 = true
               ·subst c126
                have H1 : (if (t204.length : Int) = 0 then (if a1.toList = ([] : List UInt8) then (if x10_3 = true then (some (!x11_3)) else (some true)) else (some true)) else (some false)) = some r := by rw [if_pos rfl] at H; exact H
                clear H
                have H := H1
                clear H1
                by_cases c127 : (t204.length : Int) = 0
                ·rw [if_pos c127] at H
                 have c127b0 : ((t204.length : Int) == 0) = true := beq_iff_eq.mpr c127
                 have c127b1 : ((t204.length : Int) != 0) = false := bne_eq_false_iff_eq.mpr c127
                 clear c127
                 by_cases c128 : a1.toList = ([] : List UInt8)
                 ·rw [if_pos c128] at H
                  have c128f : a1.toList.isEmpty = true := by first | (rw [c128]; rfl) | (cases hh_ : a1.toList with | nil => exact absurd hh_ c128 | cons _ _ => rfl)
                  have c128b0 : (a1.toList == ([] : List UInt8)) = true := beq_iff_eq.mpr c128
                  have c128b1 : (a1.toList != ([] : List UInt8)) = false := bne_eq_false_iff_eq.mpr c128
                  clear c128
                  by_cases c129 : x10_3 = true
                  ·subst c129
                   have H1 : (some (!x11_3)) = some r := by rw [if_pos rfl] at H; exact H
                   clear H
                   have H := H1
                   clear H1
                   obtain rfl := Option.some.inj H
                   go_wp2_with (first | ((with_reducible refine gate_callee (f := 9) rfl ?_); refine goesL_ (some 119) rfl rfl Try.func9 (by kernel_rfl) rfl #[] rfl (by (try simp only [List.map_toArray, List.map_cons, List.map_nil]); first | done | rfl | (simp only [List.length_drop, List.length_take]; rfl)) ?_; (with_reducible refine (lodestonelaw25_awake.calls  true _ A125.out).mono ?_); rintro e w130 ⟨rfl, hb⟩; refine ⟨_, rfl, ?_⟩; have n0_ := Aside0.mk (Kd.R_below (by (with_reducible repeat (first | apply Kd.R_alloc | apply Kd.R_drewN | apply Kd.R_drew)); exact HO_8.out) hb); have n1_ := Aside0.mk (below_step (by repeat (first | (with_reducible first | exact HB.out | apply below_alloc | apply pw_below_drewN | apply below_drew1) | exact HB.out)) hb); clear HO_8; clear HB; have HO_8 := n0_; have HB := n1_; clear n0_ n1_; (try clear hb); (try clear hb2); (try clear hk); (try clear hi); obtain ⟨Ao131, co131, eo131⟩ := Kd.R_slice HO_8.out; subst eo131))
                   go_ret
                   exact ⟨by first | rfl | (simp [errW_none, errW_some] <;> rfl) | (simp only [← hji3, ← hji26]; first | rfl | (simp [errW_none, errW_some] <;> rfl)) | (simp [*, errW_none, errW_some] <;> rfl), by repeat (first | (with_reducible first | exact HB.out | apply below_alloc | apply pw_below_drewN | apply below_drew1) | exact HB.out)⟩
                  ·replace c129 := Bool.eq_false_iff.mpr c129
                   subst c129
                   have H1 : (some true) = some r := by rw [if_neg (show ¬ (false = true) by decide)] at H; exact H
                   clear H
                   have H := H1
                   clear H1
                   obtain rfl := Option.some.inj H
                   go_wp2_with (first | ((with_reducible refine gate_callee (f := 9) rfl ?_); refine goesL_ (some 119) rfl rfl Try.func9 (by kernel_rfl) rfl #[] rfl (by (try simp only [List.map_toArray, List.map_cons, List.map_nil]); first | done | rfl | (simp only [List.length_drop, List.length_take]; rfl)) ?_; (with_reducible refine (lodestonelaw25_awake.calls  true _ A125.out).mono ?_); rintro e w132 ⟨rfl, hb⟩; refine ⟨_, rfl, ?_⟩; have n0_ := Aside0.mk (Kd.R_below (by (with_reducible repeat (first | apply Kd.R_alloc | apply Kd.R_drewN | apply Kd.R_drew)); exact HO_8.out) hb); have n1_ := Aside0.mk (below_step (by repeat (first | (with_reducible first | exact HB.out | apply below_alloc | apply pw_below_drewN | apply below_drew1) | exact HB.out)) hb); clear HO_8; clear HB; have HO_8 := n0_; have HB := n1_; clear n0_ n1_; (try clear hb); (try clear hb2); (try clear hk); (try clear hi); obtain ⟨Ao133, co133, eo133⟩ := Kd.R_slice HO_8.out; subst eo133))
                   go_ret
                   exact ⟨by first | rfl | (simp [errW_none, errW_some] <;> rfl) | (simp only [← hji3, ← hji26]; first | rfl | (simp [errW_none, errW_some] <;> rfl)) | (simp [*, errW_none, errW_some] <;> rfl), by repeat (first | (with_reducible first | exact HB.out | apply below_alloc | apply pw_below_drewN | apply below_drew1) | exact HB.out)⟩
                 ·rw [if_neg c128] at H
                  have c128f : a1.toList.isEmpty = false := by first | (rw [c128]; rfl) | (cases hh_ : a1.toList with | nil => exact absurd hh_ c128 | cons _ _ => rfl)
                  have c128b0 : (a1.toList == ([] : List UInt8)) = false := beq_eq_false_iff_ne.mpr c128
                  have c128b1 : (a1.toList != ([] : List UInt8)) = true := bne_iff_ne.mpr c128
                  obtain rfl := Option.some.inj H
                  go_wp2_with (first | ((with_reducible refine gate_callee (f := 9) rfl ?_); refine goesL_ (some 119) rfl rfl Try.func9 (by kernel_rfl) rfl #[] rfl (by (try simp only [List.map_toArray, List.map_cons, List.map_nil]); first | done | rfl | (simp only [List.length_drop, List.length_take]; rfl)) ?_; (with_reducible refine (lodestonelaw25_awake.calls  true _ A125.out).mono ?_); rintro e w134 ⟨rfl, hb⟩; refine ⟨_, rfl, ?_⟩; have n0_ := Aside0.mk (Kd.R_below (by (with_reducible repeat (first | apply Kd.R_alloc | apply Kd.R_drewN | apply Kd.R_drew)); exact HO_8.out) hb); have n1_ := Aside0.mk (below_step (by repeat (first | (with_reducible first | exact HB.out | apply below_alloc | apply pw_below_drewN | apply below_drew1) | exact HB.out)) hb); clear HO_8; clear HB; have HO_8 := n0_; have HB := n1_; clear n0_ n1_; (try clear hb); (try clear hb2); (try clear hk); (try clear hi); obtain ⟨Ao135, co135, eo135⟩ := Kd.R_slice HO_8.out; subst eo135))
                  go_ret
                  exact ⟨by first | rfl | (simp [errW_none, errW_some] <;> rfl) | (simp only [← hji3, ← hji26]; first | rfl | (simp [errW_none, errW_some] <;> rfl)) | (simp [*, errW_none, errW_some] <;> rfl), by repeat (first | (with_reducible first | exact HB.out | apply below_alloc | apply pw_below_drewN | apply below_drew1) | exact HB.out)⟩
                ·rw [if_neg c127] at H
                 have c127b0 : ((t204.length : Int) == 0) = false := beq_eq_false_iff_ne.mpr c127
                 have c127b1 : ((t204.length : Int) != 0) = true := bne_iff_ne.mpr c127
                 have c127b2 : ¬ (t204 = []) := fun h_ => c127 (by rw [h_]; rfl)
                 obtain rfl := Option.some.inj H
                 go_wp2_with (first | ((with_reducible refine gate_callee (f := 9) rfl ?_); refine goesL_ (some 119) rfl rfl Try.func9 (by kernel_rfl) rfl #[] rfl (by (try simp only [List.map_toArray, List.map_cons, List.map_nil]); first | done | rfl | (simp only [List.length_drop, List.length_take]; rfl)) ?_; (with_reducible refine (lodestonelaw25_awake.calls  true _ A125.out).mono ?_); rintro e w136 ⟨rfl, hb⟩; refine ⟨_, rfl, ?_⟩; have n0_ := Aside0.mk (Kd.R_below (by (with_reducible repeat (first | apply Kd.R_alloc | apply Kd.R_drewN | apply Kd.R_drew)); exact HO_8.out) hb); have n1_ := Aside0.mk (below_step (by repeat (first | (with_reducible first | exact HB.out | apply below_alloc | apply pw_below_drewN | apply below_drew1) | exact HB.out)) hb); clear HO_8; clear HB; have HO_8 := n0_; have HB := n1_; clear n0_ n1_; (try clear hb); (try clear hb2); (try clear hk); (try clear hi); obtain ⟨Ao137, co137, eo137⟩ := Kd.R_slice HO_8.out; subst eo137))
                 go_ret
                 exact ⟨by first | rfl | (simp [errW_none, errW_some] <;> rfl) | (simp only [← hji3, ← hji26]; first | rfl | (simp [errW_none, errW_some] <;> rfl)) | (simp [*, errW_none, errW_some] <;> rfl), by repeat (first | (with_reducible first | exact HB.out | apply below_alloc | apply pw_below_drewN | apply below_drew1) | exact HB.out)⟩
               ·replace c126 := Bool.eq_false_iff.mpr c126
                subst c126
                have H1 : (some false) = some r := by rw [if_neg (show ¬ (false = true) by decide)] at H; exact H
                clear H
                have H := H1
                clear H1
                obtain rfl := Option.some.inj H
                go_wp2_with (first | ((with_reducible refine gate_callee (f := 9) rfl ?_); refine goesL_ (some 119) rfl rfl Try.func9 (by kernel_rfl) rfl #[] rfl (by (try simp only [List.map_toArray, List.map_cons, List.map_nil]); first | done | rfl | (simp only [List.length_drop, List.length_take]; rfl)) ?_; (with_reducible refine (lodestonelaw25_awake.calls  false _ A125.out).mono ?_); rintro e w138 ⟨rfl, hb⟩; refine ⟨_, rfl, ?_⟩; have n0_ := Aside0.mk (Kd.R_below (by (with_reducible repeat (first | apply Kd.R_alloc | apply Kd.R_drewN | apply Kd.R_drew)); exact HO_8.out) hb); have n1_ := Aside0.mk (below_step (by repeat (first | (with_reducible first | exact HB.out | apply below_alloc | apply pw_below_drewN | apply below_drew1) | exact HB.out)) hb); clear HO_8; clear HB; have HO_8 := n0_; have HB := n1_; clear n0_ n1_; (try clear hb); (try clear hb2); (try clear hk); (try clear hi)))
                go_ret
                exact ⟨by first | rfl | (simp [errW_none, errW_some] <;> rfl) | (simp only [← hji3, ← hji26]; first | rfl | (simp [errW_none, errW_some] <;> rfl)) | (simp [*, errW_none, errW_some] <;> rfl), by repeat (first | (with_reducible first | exact HB.out | apply below_alloc | apply pw_below_drewN | apply below_drew1) | exact HB.out)⟩
        ·rw [if_neg c29] at H
         exact absurd H (by simp)
       ·rw [if_neg c28] at H
        exact absurd H (by simp)
      ·rw [if_neg c27] at H
       exact absurd H (by simp)

end Go.Proofs.Ytehpdkgjclnilaa.PSchemaGets
