-- Written by a program of this session's (the kit's print, with additions of my own). Not trusted: Lean checks it.
import Derived.Test.YtgghakjleihgaaaDoorPRecordKeysx0
import Derived.Test.YtgghakjleihgaaaDoorPRecordKeysx3
import Derived.Test.YtgghakjleihgaaaDoorPRecordKeysx4
import Derived.Test.YtgghakjleihgaaaDoorPRecordKeysx6
import Derived.Test.YtgghakjleihgaaaDoorPRecordKeysx7
import Derived.Test.YtgghakjleihgaaaDoorXB
namespace Go.Proofs.YtgghakjleihgaaaDoor.PRecordKeys
open Go.RowKit Go.Proofs.YtgghakjleihgaaaDoorW.PrintWords Go.Proofs.YtgghakjleihgaaaDoorW.PrintLast Go.Proofs.YtgghakjleihgaaaDoorW.PrintMore
open Go.Proofs.YtgghakjleihgaaaDoorW.PrintWords renaming blk_drewN → zN, blk_drew → zD, blk_alloc → zA, blk_cell → zC, blk_frozen → zF, below_set → zS, below_alloc → zL, below_drew1 → zW, pw_below_drewN → zP, blk_below → zB, keep_drewN → zK
open Go.Proofs.YtgghakjleihgaaaDoorW.PrintWords.Aside0 renaming mk → zM
open List renaming setIfInBounds_toArray → zT, set_cons_zero → zZ, set_cons_succ → zU, length_drop → zV, length_take → zX, map_toArray → zY
attribute [local go_sem] max2_int min2_int max_two min_two max_three min_three max_four min_four   -- for this text's walks alone
set_option linter.unusedVariables false
set_option linter.unusedSimpArgs false
abbrev zb8_0 : Array Bool := #[false, false, false, false, false, false, false, false, false]
abbrev zb8_1 : Array Bool := #[true, false, false, false, false, false, false, false, false]
abbrev zb8_2 : Array Bool := #[true, false, true, false, false, false, false, false, false]
abbrev zb8_3 : Array Bool := #[true, true, true, false, false, false, false, false, false]
abbrev zb8_4 : Array Bool := #[true, true, true, true, false, false, false, false, false]
abbrev zb8_5 : Array Bool := #[false, false, false, false, false, false, false, false, false, false, false, false]
abbrev zb8_6 : Array Bool := #[true, false, false, false, false, false, false, false, false, false, false, false]
abbrev zb8_7 : Array Bool := #[true, false, true, false, false, false, false, false, false, false, false, false]
abbrev zb8_8 : Array Bool := #[true, false, true, false, false, true, false, false, false, false, false, false]
abbrev zb8_9 : Array Bool := #[true, true, true, false, false, true, false, false, false, false, false, false]
abbrev zb8_10 : Array Bool := #[true, true, true, true, false, true, false, false, false, false, false, false]
abbrev zb8_11 : Array Bool := #[true, true, true, true, true, true, false, false, false, false, false, false]
abbrev zb8_12 : Array Bool := #[true, true, true, true, true, true, true, false, false, false, false, false]
abbrev zb8_13 : Array Bool := #[true, true, true, true, true, true, true, true, false, false, false, false]
abbrev zb8_14 : Array Bool := #[true, true, true, true, true, true, true, true, true, false, false, false]
abbrev zb8_15 : Array Bool := #[true, true, true, true, true, true, true, true, true, true, false, false]
abbrev zb8_16 : Array Bool := #[true, true, true, true, true, true, true, true, true, true, true, false]
abbrev zb8_17 : Array Bool := #[true, true, true, true, true, true, true, true, true, true, true, true]

/-! ### record_Get: function 8 -/
mutual
def record_Get.j1 : Nat → ByteArray → ByteArray → Int → Bool → List Int → Int → Int → Int → Option (Bool × List Int × Int × Int × Int × (List (S47)) × Int)
 | 0, _, _, _, _, _, _, _, _ => none
 | k + 1, x0, x211000, x211001, x215000, x215001, x215002, x215003, x215004 => (code_Reader_Num.f k x211000 x211001 16).bind fun bt233 => (record_Get.l1 k x0 bt233.1 0 bt233.2.1 bt233.2.2 x215000 x215001 x215002 x215003 x215004 ([] : List (S47)))
def record_Get.l1 : Nat → ByteArray → Int → Int → ByteArray → Int → Bool → List Int → Int → Int → Int → List (S47) → Option (Bool × List Int × Int × Int × Int × (List (S47)) × Int)
 | 0, _, _, _, _, _, _, _, _, _, _, _ => none
 | k + 1, x0, x38, x39, x211000, x211001, x215000, x215001, x215002, x215003, x215004, x215005 => if x39 < x38 then ((code_Reader_Num.f k x211000 x211001 64).bind fun bt236 => ((value_Take.f k bt236.2.1 bt236.2.2).bind fun bt239 => (if x215005.length < 3518437208883 then (record_Get.l1 k x0 x38 (IntKind.u64.wrap (x39 + 1)) bt239.2.2.2.1 bt239.2.2.2.2 x215000 x215001 x215002 x215003 x215004 (x215005 ++ [(⟨wrap64 (bt236.1), (⟨bt239.1, bt239.2.1, bt239.2.2.1⟩ : S42)⟩ : S47)])) else (none)))) else ((code_Reader_End.f x211000 x211001).bind fun bt247 => (if bt247.1 = 0 then (if (x0.size : Int) > 4096 then (some (false, ([] : List Int), 0, 0, 0, ([] : List (S47)), 3)) else ((record_May.f k x215000 x215001 x215002 x215003 x215004 x215005).bind fun t250 => (if t250 = true then (some (x215000, x215001, x215002, x215003, x215004, x215005, 0)) else (some (false, ([] : List Int), 0, 0, 0, ([] : List (S47)), 3))))) else (some (false, ([] : List Int), 0, 0, 0, ([] : List (S47)), bt247.1))))
def record_Get.l0 : Nat → ByteArray → Int → Int → ByteArray → Int → Bool → List Int → Int → Int → Int → Option (Bool × List Int × Int × Int × Int × (List (S47)) × Int)
 | 0, _, _, _, _, _, _, _, _, _, _ => none
 | k + 1, x0, x25, x26, x211000, x211001, x215000, x215001, x215002, x215003, x215004 => if x26 < x25 then ((code_Reader_Num.f k x211000 x211001 64).bind fun bt227 => (if x215001.length < 17592186044416 then (record_Get.l0 k x0 x25 (IntKind.u64.wrap (x26 + 1)) bt227.2.1 bt227.2.2 x215000 (x215001 ++ [wrap64 (bt227.1)]) x215002 x215003 x215004) else (none))) else (record_Get.j1 k x0 x211000 x211001 x215000 x215001 x215002 x215003 x215004)
end
def record_Get.f (k : Nat) (a0 : ByteArray) : Option (Bool × List Int × Int × Int × Int × (List (S47)) × Int) := (code_Read.f a0).bind fun bt208 => ((code_Reader_Bool.f k bt208.1 bt208.2).bind fun bt211 => (if bt211.1 = true then ((code_Reader_Num.f k bt211.2.1 bt211.2.2 64).bind fun bt215 => ((code_Reader_Num.f k bt215.2.1 bt215.2.2 18446744073709551615).bind fun bt218 => ((code_Reader_Num.f k bt218.2.1 bt218.2.2 18446744073709551615).bind fun bt221 => (record_Get.j1 k a0 bt221.2.1 bt221.2.2 bt211.1 ([] : List Int) (wrap64 (bt215.1)) bt218.1 bt221.1)))) else ((code_Reader_Num.f k bt211.2.1 bt211.2.2 8).bind fun bt224 => (record_Get.l0 k a0 bt224.1 0 bt224.2.1 bt224.2.2 bt211.1 ([] : List Int) 0 0 0))))
theorem record_Get.mono_l : ∀ k, (∀ y0 y1 y2 y3 y4 y5 y6 y7, LeO (record_Get.j1 k y0 y1 y2 y3 y4 y5 y6 y7) (record_Get.j1 (k + 1) y0 y1 y2 y3 y4 y5 y6 y7)) ∧ (∀ y0 y1 y2 y3 y4 y5 y6 y7 y8 y9 y10, LeO (record_Get.l1 k y0 y1 y2 y3 y4 y5 y6 y7 y8 y9 y10) (record_Get.l1 (k + 1) y0 y1 y2 y3 y4 y5 y6 y7 y8 y9 y10)) ∧ (∀ y0 y1 y2 y3 y4 y5 y6 y7 y8 y9, LeO (record_Get.l0 k y0 y1 y2 y3 y4 y5 y6 y7 y8 y9) (record_Get.l0 (k + 1) y0 y1 y2 y3 y4 y5 y6 y7 y8 y9))
 | 0 => ⟨fun _ _ _ _ _ _ _ _ r h => by simp [record_Get.j1] at h, fun _ _ _ _ _ _ _ _ _ _ _ r h => by simp [record_Get.l1] at h, fun _ _ _ _ _ _ _ _ _ _ r h => by simp [record_Get.l0] at h⟩
 | k + 1 => by
  obtain ⟨ih0, ih1, ih2⟩ := record_Get.mono_l k
  refine ⟨?_, ?_, ?_⟩
  ·intro y0 y1 y2 y3 y4 y5 y6 y7
   unfold record_Get.j1
   repeat' first
   | (with_reducible exact ih0 _ _ _ _ _ _ _ _)
   | (with_reducible exact ih1 _ _ _ _ _ _ _ _ _ _ _)
   | (with_reducible exact ih2 _ _ _ _ _ _ _ _ _ _)
   | (with_reducible exact code_Reader_Bool.mono _ _ _)
   | (with_reducible exact code_Reader_Num.mono _ _ _ _)
   | (with_reducible exact record_May.mono _ _ _ _ _ _ _)
   | (with_reducible exact value_Take.mono _ _ _)
   | (with_reducible exact LeO.refl _)
   | (with_reducible exact LeO.none _)
   | (with_reducible refine LeO.ite ?_ ?_)
   | (with_reducible refine LeO.bind ?_ (fun _ => ?_))
   | exact ih0 _ _ _ _ _ _ _ _
   | exact ih1 _ _ _ _ _ _ _ _ _ _ _
   | exact ih2 _ _ _ _ _ _ _ _ _ _
   | exact code_Reader_Bool.mono _ _ _
   | exact code_Reader_Num.mono _ _ _ _
   | exact record_May.mono _ _ _ _ _ _ _
   | exact value_Take.mono _ _ _
   | exact LeO.none _
   | refine LeO.ite ?_ ?_
   | refine LeO.bind ?_ (fun _ => ?_)
  ·intro y0 y1 y2 y3 y4 y5 y6 y7 y8 y9 y10
   unfold record_Get.l1
   repeat' first
   | (with_reducible exact ih0 _ _ _ _ _ _ _ _)
   | (with_reducible exact ih1 _ _ _ _ _ _ _ _ _ _ _)
   | (with_reducible exact ih2 _ _ _ _ _ _ _ _ _ _)
   | (with_reducible exact code_Reader_Bool.mono _ _ _)
   | (with_reducible exact code_Reader_Num.mono _ _ _ _)
   | (with_reducible exact record_May.mono _ _ _ _ _ _ _)
   | (with_reducible exact value_Take.mono _ _ _)
   | (with_reducible exact LeO.refl _)
   | (with_reducible exact LeO.none _)
   | (with_reducible refine LeO.ite ?_ ?_)
   | (with_reducible refine LeO.bind ?_ (fun _ => ?_))
   | exact ih0 _ _ _ _ _ _ _ _
   | exact ih1 _ _ _ _ _ _ _ _ _ _ _
   | exact ih2 _ _ _ _ _ _ _ _ _ _
   | exact code_Reader_Bool.mono _ _ _
   | exact code_Reader_Num.mono _ _ _ _
   | exact record_May.mono _ _ _ _ _ _ _
   | exact value_Take.mono _ _ _
   | exact LeO.none _
   | refine LeO.ite ?_ ?_
   | refine LeO.bind ?_ (fun _ => ?_)
  ·intro y0 y1 y2 y3 y4 y5 y6 y7 y8 y9
   unfold record_Get.l0
   repeat' first
   | (with_reducible exact ih0 _ _ _ _ _ _ _ _)
   | (with_reducible exact ih1 _ _ _ _ _ _ _ _ _ _ _)
   | (with_reducible exact ih2 _ _ _ _ _ _ _ _ _ _)
   | (with_reducible exact code_Reader_Bool.mono _ _ _)
   | (with_reducible exact code_Reader_Num.mono _ _ _ _)
   | (with_reducible exact record_May.mono _ _ _ _ _ _ _)
   | (with_reducible exact value_Take.mono _ _ _)
   | (with_reducible exact LeO.refl _)
   | (with_reducible exact LeO.none _)
   | (with_reducible refine LeO.ite ?_ ?_)
   | (with_reducible refine LeO.bind ?_ (fun _ => ?_))
   | exact ih0 _ _ _ _ _ _ _ _
   | exact ih1 _ _ _ _ _ _ _ _ _ _ _
   | exact ih2 _ _ _ _ _ _ _ _ _ _
   | exact code_Reader_Bool.mono _ _ _
   | exact code_Reader_Num.mono _ _ _ _
   | exact record_May.mono _ _ _ _ _ _ _
   | exact value_Take.mono _ _ _
   | exact LeO.none _
   | refine LeO.ite ?_ ?_
   | refine LeO.bind ?_ (fun _ => ?_)
theorem record_Get.mono : ∀ a0 k, LeO (record_Get.f k a0) (record_Get.f (k + 1) a0) := by
 intro a0 k
 obtain ⟨ih0, ih1, ih2⟩ := record_Get.mono_l k
 unfold record_Get.f
 repeat' first
   | (with_reducible exact ih0 _ _ _ _ _ _ _ _)
   | (with_reducible exact ih1 _ _ _ _ _ _ _ _ _ _ _)
   | (with_reducible exact ih2 _ _ _ _ _ _ _ _ _ _)
   | (with_reducible exact code_Reader_Bool.mono _ _ _)
   | (with_reducible exact code_Reader_Num.mono _ _ _ _)
   | (with_reducible exact record_May.mono _ _ _ _ _ _ _)
   | (with_reducible exact value_Take.mono _ _ _)
   | (with_reducible exact LeO.refl _)
   | (with_reducible exact LeO.none _)
   | (with_reducible refine LeO.ite ?_ ?_)
   | (with_reducible refine LeO.bind ?_ (fun _ => ?_))
   | exact ih0 _ _ _ _ _ _ _ _
   | exact ih1 _ _ _ _ _ _ _ _ _ _ _
   | exact ih2 _ _ _ _ _ _ _ _ _ _
   | exact code_Reader_Bool.mono _ _ _
   | exact code_Reader_Num.mono _ _ _ _
   | exact record_May.mono _ _ _ _ _ _ _
   | exact value_Take.mono _ _ _
   | exact LeO.none _
   | refine LeO.ite ?_ ?_
   | refine LeO.bind ?_ (fun _ => ?_)
def record_Get.T7 : Bool × List (List Nat × List Nat) := (true, [([], []), ([0], [0]), ([], []), ([2], [2]), ([3], [3]), ([4], [4]), ([1, 5, 3], [1, 5]), ([0, 1, 2, 3, 4, 5, 6], []), ([7, 6, 6, 0, 1, 2, 3, 4, 5, 6], [6, 7])])
def record_Get.B7 : List Nat := [0, 1, 0, 4, 12, 28, 63, 127, 255]
theorem record_Get.tab7 : rtab .any (opsOf Tryd.f8 7) = record_Get.T7 := by kernel_rfl
theorem record_Get.bits7 : waitsOk record_Get.T7.2 record_Get.B7 = true := by kernel_rfl
def record_Get.T11 : Bool × List (List Nat × List Nat) := (true, [([], []), ([0], [0]), ([], []), ([2], [2]), ([3], [3]), ([], []), ([5, 3], [5]), ([4, 6], [4, 6]), ([7], [7]), ([1, 8, 6], [1, 8]), ([0, 1, 2, 3, 4, 5, 6, 7, 8, 9], []), ([10, 9, 9, 0, 1, 2, 3, 4, 5, 6, 7, 8, 9], [9, 10])])
def record_Get.B11 : List Nat := [0, 1, 0, 4, 12, 0, 44, 124, 252, 511, 1023, 2047]
theorem record_Get.tab11 : rtab .any (opsOf Tryd.f8 11) = record_Get.T11 := by kernel_rfl
theorem record_Get.bits11 : waitsOk record_Get.T11.2 record_Get.B11 = true := by kernel_rfl
set_option maxHeartbeats 8000000 in
set_option maxRecDepth 100000 in
theorem record_Get.calls (k : Nat) (a0 : ByteArray) (r1 : Bool) (r2 : List Int) (r3 : Int) (r4 : Int) (r5 : Int) (r6 : List (S47)) (r7 : Int) (w : World) (h : record_Get.f k a0 = some (r1, r2, r3, r4, r5, r6, r7)) :
  Calls Tryd.prog 8 #[.string a0] w fun e w' => ∃ v1_ v5_ : Value, e = .returned (.tuple #[.agg #[.bool r1, v1_, .int .i64 r3, .int .u64 r4, .int .u64 r5, v5_], .int .i64 r7]) ∧ Kd.R (Kd.int .i64) 3 w' w.heap.size (fun _ => True) v1_ r2 ∧ Kd.R k47 47 w' w.heap.size (fun _ => True) v5_ r6 ∧ Below w.heap.size w w' := by
 have hu26 := Tryd.underlying26
 have hu47 := Tryd.underlying47
 have HB := zM (Below.refl w.heap.size w)
 have H : ((code_Read.f a0).bind fun bt208 => ((code_Reader_Bool.f k bt208.1 bt208.2).bind fun bt211 => (if bt211.1 = true then ((code_Reader_Num.f k bt211.2.1 bt211.2.2 64).bind fun bt215 => ((code_Reader_Num.f k bt215.2.1 bt215.2.2 18446744073709551615).bind fun bt218 => ((code_Reader_Num.f k bt218.2.1 bt218.2.2 18446744073709551615).bind fun bt221 => (record_Get.j1 k a0 bt221.2.1 bt221.2.2 bt211.1 ([] : List Int) (wrap64 (bt215.1)) bt218.1 bt221.1)))) else ((code_Reader_Num.f k bt211.2.1 bt211.2.2 8).bind fun bt224 => (record_Get.l0 k a0 bt224.1 0 bt224.2.1 bt224.2.2 bt211.1 ([] : List Int) 0 0 0))))) = some (r1, r2, r3, r4, r5, r6, r7) := h
 clear h
 replace H := Option.bind_eq_some_iff.mp H
 obtain ⟨⟨t208, t209⟩, A20, H⟩ := H
 replace H : ((code_Reader_Bool.f k t208 t209).bind fun bt211 => (if bt211.1 = true then ((code_Reader_Num.f k bt211.2.1 bt211.2.2 64).bind fun bt215 => ((code_Reader_Num.f k bt215.2.1 bt215.2.2 18446744073709551615).bind fun bt218 => ((code_Reader_Num.f k bt218.2.1 bt218.2.2 18446744073709551615).bind fun bt221 => (record_Get.j1 k a0 bt221.2.1 bt221.2.2 bt211.1 ([] : List Int) (wrap64 (bt215.1)) bt218.1 bt221.1)))) else ((code_Reader_Num.f k bt211.2.1 bt211.2.2 8).bind fun bt224 => (record_Get.l0 k a0 bt224.1 0 bt224.2.1 bt224.2.2 bt211.1 ([] : List Int) 0 0 0)))) = some (r1, r2, r3, r4, r5, r6, r7) := H
 have A2 := zM A20
 clear A20
 replace H := Option.bind_eq_some_iff.mp H
 obtain ⟨⟨t211, t212, t213⟩, A30, H⟩ := H
 replace H : (if t211 = true then ((code_Reader_Num.f k t212 t213 64).bind fun bt215 => ((code_Reader_Num.f k bt215.2.1 bt215.2.2 18446744073709551615).bind fun bt218 => ((code_Reader_Num.f k bt218.2.1 bt218.2.2 18446744073709551615).bind fun bt221 => (record_Get.j1 k a0 bt221.2.1 bt221.2.2 t211 ([] : List Int) (wrap64 (bt215.1)) bt218.1 bt221.1)))) else ((code_Reader_Num.f k t212 t213 8).bind fun bt224 => (record_Get.l0 k a0 bt224.1 0 bt224.2.1 bt224.2.2 t211 ([] : List Int) 0 0 0))) = some (r1, r2, r3, r4, r5, r6, r7) := H
 have A3 := zM A30
 clear A30
 have HC4 := zM H
 clear H
 go_enter Tryd.func8, Tryd.ntmps8
 go_upto_if 13 with (first | ((with_reducible refine gate_dst (N := 2) rfl ?_); refine box_event ?hg (N := 2) ?hd (cs := #[.bool false, .slice none 0 0, .int .i64 0, .int .u64 0, .int .u64 0, .slice none 0 0]) (t := 26) ?hr ?_; (case hd => rfl); (case hg => rfl); (case hr => first | (go_simp; done) | (go_simp; rfl)); intro gb207 hg w5 hbox hb; have n0_ := zM (below_step (by repeat (first | (with_reducible first | exact HB.out | apply zL | apply zP | apply zW) | exact HB.out)) hb); have n1_ := zM (hbox); have n2_ := zM ((by rw [hg]; exact (below_size (by repeat (first | (with_reducible first | exact HB.out | apply zL | apply zP | apply zW) | exact HB.out))) : w.heap.size ≤ gb207)); have n3_ := zM ((by rw [hg]; exact (below_size (by repeat (first | (with_reducible first | exact HB.out | apply zL | apply zP | apply zW) | exact HB.out))) : w.heap.size ≤ gb207)); clear HB; have HB := n0_; have BK207 := n1_; have GW207 := n2_; have GE207 := n3_; clear n0_ n1_ n2_ n3_; clear hb hbox hg) | ((with_reducible refine gate_callee (f := 24) rfl ?_); refine goesL_ (some 8) rfl rfl Tryd.func24 (by kernel_rfl) rfl #[.string a0] rfl (by (try simp only [zY, List.map_cons, List.map_nil]); first | done | rfl | (simp only [zV, zX]; rfl)) ?_; (with_reducible refine (code_Read.calls a0 t208 t209 w _ ?side1 A2.out).mono ?_); (case side1 => repeat (first | (with_reducible first | exact HB.out | apply zL | apply zP | apply zW | refine zS ?_ GE207.out) | exact HB.out)); rintro e w6 ⟨g210, rfl, hi, hb, hb2⟩; refine ⟨_, rfl, ?_⟩; have n0_ := zM (zB (g := gb207) (o := .cells #[.bool false, .slice none 0 0, .int .i64 0, .int .u64 0, .int .u64 0, .slice none 0 0] 26 (0, 0)) (by (with_reducible repeat (first | refine zN ?_ _ | refine zD ?_ | refine zA ?_ _)); exact BK207.out) hb2); have n1_ := zM (hb); have n2_ := zM (hi); have n3_ := zM (IsS67.ne_blk hi (zB (g := gb207) (o := .cells #[.bool false, .slice none 0 0, .int .i64 0, .int .u64 0, .int .u64 0, .slice none 0 0] 26 (0, 0)) (by (with_reducible repeat (first | refine zN ?_ _ | refine zD ?_ | refine zA ?_ _)); exact BK207.out) hb2) (by decide)); have n4_ := zM (Ne.symm (IsS67.ne_blk hi (zB (g := gb207) (o := .cells #[.bool false, .slice none 0 0, .int .i64 0, .int .u64 0, .int .u64 0, .slice none 0 0] 26 (0, 0)) (by (with_reducible repeat (first | refine zN ?_ _ | refine zD ?_ | refine zA ?_ _)); exact BK207.out) hb2) (by decide))); clear BK207; clear HB; have BK207 := n0_; have HB := n1_; have HI210 := n2_; have NB210_207 := n3_; have NB207_210 := n4_; clear n0_ n1_ n2_ n3_ n4_; (try clear hb); (try clear hb2); (try clear hk); (try clear hi)) | ((with_reducible refine gate_callee (f := 25) rfl ?_); refine goesL_ (some 10) rfl rfl Tryd.func25 (by kernel_rfl) rfl #[.pointer (some ⟨g210, 0, none⟩)] rfl (by (try simp only [zY, List.map_cons, List.map_nil]); first | done | rfl | (simp only [zV, zX]; rfl)) ?_; (with_reducible refine (code_Reader_Bool.calls k g210 t208 t209 t211 t212 t213 w _ ?side1 ?side2 A3.out).mono ?_); (case side1 => repeat (first | (with_reducible first | exact HI210.out | apply IsS67.alloc | apply IsS67.drewN | apply IsS67.drew | apply IsS67.set_0 | apply IsS67.set_1 | refine IsS67.far ?_ NB210_207.out _) | exact HI210.out)); (case side2 => repeat (first | (with_reducible first | exact HB.out | apply zL | apply zP | apply zW | refine zS ?_ (IsS67.ge HI210.out) | refine zS ?_ GE207.out) | exact HB.out)); rintro e w7 ⟨rfl, hi, hb, hk⟩; refine ⟨_, rfl, ?_⟩; have n0_ := zM (KeepBut.blk hk (g' := gb207) (o := .cells #[.bool false, .slice none 0 0, .int .i64 0, .int .u64 0, .int .u64 0, .slice none 0 0] 26 (0, 0)) (by (with_reducible repeat (first | refine zN ?_ _ | refine zD ?_ | refine zA ?_ _)); exact BK207.out) NB207_210.out (by simp)); have n1_ := zM (hb); have n2_ := zM (hi); clear BK207; clear HB; clear HI210; have BK207 := n0_; have HB := n1_; have HI210 := n2_; clear n0_ n1_ n2_; (try clear hb); (try clear hb2); (try clear hk); (try clear hi)) | ((with_reducible refine gate_dst (N := 5) rfl ?_); refine box_event ?hg (N := 5) ?hd (cs := #[.bool false, .slice none 0 0, .int .i64 0, .int .u64 0, .int .u64 0, .slice none 0 0]) (t := 26) ?hr ?_; (case hd => rfl); (case hg => rfl); (case hr => first | (go_simp; done) | (go_simp; rfl)); intro gb214 hg w8 hbox hb; have n0_ := zM (zB (g := gb207) (o := .cells #[.bool false, .slice none 0 0, .int .i64 0, .int .u64 0, .int .u64 0, .slice none 0 0] 26 (0, 0)) (by (with_reducible repeat (first | refine zN ?_ _ | refine zD ?_ | refine zA ?_ _)); exact BK207.out) hb); have n1_ := zM (IsS67.below (by repeat (first | (with_reducible first | exact HI210.out | apply IsS67.alloc | apply IsS67.drewN | apply IsS67.drew | apply IsS67.set_0 | apply IsS67.set_1 | refine IsS67.far ?_ NB210_207.out _) | exact HI210.out)) hb); have n2_ := zM (below_step (by repeat (first | (with_reducible first | exact HB.out | apply zL | apply zP | apply zW | refine zS ?_ (IsS67.ge HI210.out) | refine zS ?_ GE207.out) | exact HB.out)) hb); have n3_ := zM (hbox); have n4_ := zM ((by rw [hg]; exact (below_size (by repeat (first | (with_reducible first | exact HB.out | apply zL | apply zP | apply zW | refine zS ?_ (IsS67.ge HI210.out) | refine zS ?_ GE207.out) | exact HB.out))) : w.heap.size ≤ gb214)); have n5_ := zM ((by rw [hg]; exact (below_size (by repeat (first | (with_reducible first | exact HB.out | apply zL | apply zP | apply zW | refine zS ?_ (IsS67.ge HI210.out) | refine zS ?_ GE207.out) | exact HB.out))) : w.heap.size ≤ gb214)); have n6_ := zM ((by rw [hg]; exact Nat.ne_of_lt (blk_lt (g := gb207) (o := .cells #[.bool false, .slice none 0 0, .int .i64 0, .int .u64 0, .int .u64 0, .slice none 0 0] 26 (0, 0)) (by (with_reducible repeat (first | refine zN ?_ _ | refine zD ?_ | refine zA ?_ _)); exact BK207.out)) : gb207 ≠ gb214)); have n7_ := zM ((by rw [hg]; exact Nat.ne_of_gt (blk_lt (g := gb207) (o := .cells #[.bool false, .slice none 0 0, .int .i64 0, .int .u64 0, .int .u64 0, .slice none 0 0] 26 (0, 0)) (by (with_reducible repeat (first | refine zN ?_ _ | refine zD ?_ | refine zA ?_ _)); exact BK207.out)) : gb214 ≠ gb207)); have n8_ := zM ((by rw [hg]; exact Nat.ne_of_lt (IsS67.lt (show IsS67 w _ g210 t212 t213 from by repeat (first | (with_reducible first | exact HI210.out | apply IsS67.alloc | apply IsS67.drewN | apply IsS67.drew | apply IsS67.set_0 | apply IsS67.set_1 | refine IsS67.far ?_ NB210_207.out _) | exact HI210.out))) : g210 ≠ gb214)); have n9_ := zM ((by rw [hg]; exact Nat.ne_of_gt (IsS67.lt (show IsS67 w _ g210 t212 t213 from by repeat (first | (with_reducible first | exact HI210.out | apply IsS67.alloc | apply IsS67.drewN | apply IsS67.drew | apply IsS67.set_0 | apply IsS67.set_1 | refine IsS67.far ?_ NB210_207.out _) | exact HI210.out))) : gb214 ≠ g210)); clear BK207; clear HI210; clear HB; have BK207 := n0_; have HI210 := n1_; have HB := n2_; have BK214 := n3_; have GW214 := n4_; have GE214 := n5_; have NB207_214 := n6_; have NB214_207 := n7_; have NB210_214 := n8_; have NB214_210 := n9_; clear n0_ n1_ n2_ n3_ n4_ n5_ n6_ n7_ n8_ n9_; clear hb hbox hg; have hnb9 := NB214_207.out; have hnc9 := NB207_214.out; have hnb10 := NB214_210.out; have hnc10 := NB210_214.out; have hcz11_0 : w8.cell? ⟨gb214, 0, none⟩ = some (.bool false) := (zC BK214.out 0).trans rfl; have hcz11_1 : w8.cell? ⟨gb214, 1, none⟩ = some (.slice none 0 0) := (zC BK214.out 1).trans rfl; have hcz11_2 : w8.cell? ⟨gb214, 2, none⟩ = some (.int .i64 0) := (zC BK214.out 2).trans rfl; have hcz11_3 : w8.cell? ⟨gb214, 3, none⟩ = some (.int .u64 0) := (zC BK214.out 3).trans rfl; have hcz11_4 : w8.cell? ⟨gb214, 4, none⟩ = some (.int .u64 0) := (zC BK214.out 4).trans rfl; have hcz11_5 : w8.cell? ⟨gb214, 5, none⟩ = some (.slice none 0 0) := (zC BK214.out 5).trans rfl; have hfz11_0 := zF BK214.out 0; have hfz11_1 := zF BK214.out 1; have hfz11_2 := zF BK214.out 2; have hfz11_3 := zF BK214.out 3; have hfz11_4 := zF BK214.out 4; have hfz11_5 := zF BK214.out 5))
 (try simp only [Act.put, zT, zZ, zU])
 go_cut [] (fun wc => ∃ (kq : Nat) (x211000_3 : ByteArray) (x211001_3 : Int) (x215001_3 : List Int) (x215002_3 : Int) (x215003_3 : Int) (x215004_3 : Int) (u215001 : Value), Aside0 (record_Get.j1 kq a0 x211000_3 x211001_3 t211 x215001_3 x215002_3 x215003_3 x215004_3 = some (r1, r2, r3, r4, r5, r6, r7)) ∧ Aside0 (kq ≤ k) ∧ Aside0 (Kd.R (Kd.int .i64) 3 wc w.heap.size (fun _ => True) u215001 x215001_3) ∧ Aside0 (wc.heap[gb207]? = some (.cells #[.bool false, (.slice none 0 0), .int .i64 0, .int .u64 0, .int .u64 0, (.slice none 0 0)] 26 (0, 0))) ∧ Aside0 (wc.heap[gb214]? = some (.cells #[.bool t211, u215001, .int .i64 x215002_3, .int .u64 x215003_3, .int .u64 x215004_3, (.slice none 0 0)] 26 (0, 0))) ∧ Aside0 (IsS67 w wc g210 x211000_3 x211001_3) ∧ Aside0 (Below w.heap.size w wc))
 case first =>
  have H := HC4.out
  clear HC4
  by_cases c12 : t211 = true
  ·subst c12
   have H1 : ((code_Reader_Num.f k t212 t213 64).bind fun bt215 => ((code_Reader_Num.f k bt215.2.1 bt215.2.2 18446744073709551615).bind fun bt218 => ((code_Reader_Num.f k bt218.2.1 bt218.2.2 18446744073709551615).bind fun bt221 => (record_Get.j1 k a0 bt221.2.1 bt221.2.2 true ([] : List Int) (wrap64 (bt215.1)) bt218.1 bt221.1)))) = some (r1, r2, r3, r4, r5, r6, r7) := by rw [if_pos rfl] at H; exact H
   clear H
   have H := H1
   clear H1
   replace H := Option.bind_eq_some_iff.mp H
   obtain ⟨⟨t215, t216, t217⟩, A130, H⟩ := H
   replace H : ((code_Reader_Num.f k t216 t217 18446744073709551615).bind fun bt218 => ((code_Reader_Num.f k bt218.2.1 bt218.2.2 18446744073709551615).bind fun bt221 => (record_Get.j1 k a0 bt221.2.1 bt221.2.2 true ([] : List Int) (wrap64 (t215)) bt218.1 bt221.1))) = some (r1, r2, r3, r4, r5, r6, r7) := H
   have A13 := zM A130
   clear A130
   replace H := Option.bind_eq_some_iff.mp H
   obtain ⟨⟨t218, t219, t220⟩, A140, H⟩ := H
   replace H : ((code_Reader_Num.f k t219 t220 18446744073709551615).bind fun bt221 => (record_Get.j1 k a0 bt221.2.1 bt221.2.2 true ([] : List Int) (wrap64 (t215)) t218 bt221.1)) = some (r1, r2, r3, r4, r5, r6, r7) := H
   have A14 := zM A140
   clear A140
   replace H := Option.bind_eq_some_iff.mp H
   obtain ⟨⟨t221, t222, t223⟩, A150, H⟩ := H
   replace H : (record_Get.j1 k a0 t222 t223 true ([] : List Int) (wrap64 (t215)) t218 t221) = some (r1, r2, r3, r4, r5, r6, r7) := H
   have A15 := zM A150
   clear A150
   have H' := zM H
   clear H
   go_wp2_with (first | ((with_reducible refine gate_callee (f := 26) rfl ?_); refine goesL_ (some 15) rfl rfl Tryd.func26 (by kernel_rfl) rfl #[.pointer (some ⟨g210, 0, none⟩), .int .u64 64] rfl (by (try simp only [zY, List.map_cons, List.map_nil]); first | done | rfl | (simp only [zV, zX]; rfl)) ?_; (with_reducible refine (code_Reader_Num.calls k g210 t212 t213 64 t215 t216 t217 w _ ?side1 ?side2 A13.out).mono ?_); (case side1 => repeat (first | (with_reducible first | exact HI210.out | apply IsS67.alloc | apply IsS67.drewN | apply IsS67.drew | apply IsS67.set_0 | apply IsS67.set_1 | refine IsS67.far ?_ NB210_207.out _ | refine IsS67.far ?_ NB210_214.out _) | exact HI210.out)); (case side2 => repeat (first | (with_reducible first | exact HB.out | apply zL | apply zP | apply zW | refine zS ?_ (IsS67.ge HI210.out) | refine zS ?_ GE207.out | refine zS ?_ GE214.out) | exact HB.out)); rintro e w16 ⟨rfl, hi, hb, hk⟩; refine ⟨_, rfl, ?_⟩; have n0_ := zM (KeepBut.blk hk (g' := gb207) (o := .cells #[.bool false, .slice none 0 0, .int .i64 0, .int .u64 0, .int .u64 0, .slice none 0 0] 26 (0, 0)) (by (with_reducible repeat (first | refine zN ?_ _ | refine zD ?_ | refine zA ?_ _)); refine blk_far ?_ NB207_214.out _; (with_reducible repeat (first | refine zN ?_ _ | refine zD ?_ | refine zA ?_ _)); refine blk_far ?_ NB207_214.out _; (with_reducible repeat (first | refine zN ?_ _ | refine zD ?_ | refine zA ?_ _)); refine blk_far ?_ NB207_214.out _; (with_reducible repeat (first | refine zN ?_ _ | refine zD ?_ | refine zA ?_ _)); refine blk_far ?_ NB207_214.out _; (with_reducible repeat (first | refine zN ?_ _ | refine zD ?_ | refine zA ?_ _)); refine blk_far ?_ NB207_214.out _; (with_reducible repeat (first | refine zN ?_ _ | refine zD ?_ | refine zA ?_ _)); refine blk_far ?_ NB207_214.out _; (with_reducible repeat (first | refine zN ?_ _ | refine zD ?_ | refine zA ?_ _)); exact BK207.out) NB207_210.out (by simp)); have n1_ := zM (KeepBut.blk hk (g' := gb214) (o := .cells #[.bool true, .slice none 0 0, .int .i64 0, .int .u64 0, .int .u64 0, .slice none 0 0] 26 (0, 0)) (by (with_reducible repeat (first | refine zN ?_ _ | refine zD ?_ | refine zA ?_ _)); refine blk_put (cs := #[.bool true, .slice none 0 0, .int .i64 0, .int .u64 0, .int .u64 0, .slice none 0 0]) ?_ 5 _ rfl; (with_reducible repeat (first | refine zN ?_ _ | refine zD ?_ | refine zA ?_ _)); refine blk_put (cs := #[.bool true, .slice none 0 0, .int .i64 0, .int .u64 0, .int .u64 0, .slice none 0 0]) ?_ 4 _ rfl; (with_reducible repeat (first | refine zN ?_ _ | refine zD ?_ | refine zA ?_ _)); refine blk_put (cs := #[.bool true, .slice none 0 0, .int .i64 0, .int .u64 0, .int .u64 0, .slice none 0 0]) ?_ 3 _ rfl; (with_reducible repeat (first | refine zN ?_ _ | refine zD ?_ | refine zA ?_ _)); refine blk_put (cs := #[.bool true, .slice none 0 0, .int .i64 0, .int .u64 0, .int .u64 0, .slice none 0 0]) ?_ 2 _ rfl; (with_reducible repeat (first | refine zN ?_ _ | refine zD ?_ | refine zA ?_ _)); refine blk_put (cs := #[.bool true, .slice none 0 0, .int .i64 0, .int .u64 0, .int .u64 0, .slice none 0 0]) ?_ 1 _ rfl; (with_reducible repeat (first | refine zN ?_ _ | refine zD ?_ | refine zA ?_ _)); refine blk_put (cs := #[.bool false, .slice none 0 0, .int .i64 0, .int .u64 0, .int .u64 0, .slice none 0 0]) ?_ 0 _ rfl; (with_reducible repeat (first | refine zN ?_ _ | refine zD ?_ | refine zA ?_ _)); exact BK214.out) NB214_210.out (by simp)); have n2_ := zM (hb); have n3_ := zM (hi); clear BK207; clear BK214; clear HB; clear HI210; have BK207 := n0_; have BK214 := n1_; have HB := n2_; have HI210 := n3_; clear n0_ n1_ n2_ n3_; (try clear hb); (try clear hb2); (try clear hk); (try clear hi)) | ((with_reducible refine gate_callee (f := 26) rfl ?_); refine goesL_ (some 18) rfl rfl Tryd.func26 (by kernel_rfl) rfl #[.pointer (some ⟨g210, 0, none⟩), .int .u64 18446744073709551615] rfl (by (try simp only [zY, List.map_cons, List.map_nil]); first | done | rfl | (simp only [zV, zX]; rfl)) ?_; (with_reducible refine (code_Reader_Num.calls k g210 t216 t217 18446744073709551615 t218 t219 t220 w _ ?side1 ?side2 A14.out).mono ?_); (case side1 => repeat (first | (with_reducible first | exact HI210.out | apply IsS67.alloc | apply IsS67.drewN | apply IsS67.drew | apply IsS67.set_0 | apply IsS67.set_1 | refine IsS67.far ?_ NB210_207.out _ | refine IsS67.far ?_ NB210_214.out _) | exact HI210.out)); (case side2 => repeat (first | (with_reducible first | exact HB.out | apply zL | apply zP | apply zW | refine zS ?_ (IsS67.ge HI210.out) | refine zS ?_ GE207.out | refine zS ?_ GE214.out) | exact HB.out)); rintro e w17 ⟨rfl, hi, hb, hk⟩; refine ⟨_, rfl, ?_⟩; have n0_ := zM (KeepBut.blk hk (g' := gb207) (o := .cells #[.bool false, .slice none 0 0, .int .i64 0, .int .u64 0, .int .u64 0, .slice none 0 0] 26 (0, 0)) (by (with_reducible repeat (first | refine zN ?_ _ | refine zD ?_ | refine zA ?_ _)); exact BK207.out) NB207_210.out (by simp)); have n1_ := zM (KeepBut.blk hk (g' := gb214) (o := .cells #[.bool true, .slice none 0 0, .int .i64 0, .int .u64 0, .int .u64 0, .slice none 0 0] 26 (0, 0)) (by (with_reducible repeat (first | refine zN ?_ _ | refine zD ?_ | refine zA ?_ _)); exact BK214.out) NB214_210.out (by simp)); have n2_ := zM (hb); have n3_ := zM (hi); clear BK207; clear BK214; clear HB; clear HI210; have BK207 := n0_; have BK214 := n1_; have HB := n2_; have HI210 := n3_; clear n0_ n1_ n2_ n3_; (try clear hb); (try clear hb2); (try clear hk); (try clear hi)) | ((with_reducible refine gate_callee (f := 26) rfl ?_); refine goesL_ (some 20) rfl rfl Tryd.func26 (by kernel_rfl) rfl #[.pointer (some ⟨g210, 0, none⟩), .int .u64 18446744073709551615] rfl (by (try simp only [zY, List.map_cons, List.map_nil]); first | done | rfl | (simp only [zV, zX]; rfl)) ?_; (with_reducible refine (code_Reader_Num.calls k g210 t219 t220 18446744073709551615 t221 t222 t223 w _ ?side1 ?side2 A15.out).mono ?_); (case side1 => repeat (first | (with_reducible first | exact HI210.out | apply IsS67.alloc | apply IsS67.drewN | apply IsS67.drew | apply IsS67.set_0 | apply IsS67.set_1 | refine IsS67.far ?_ NB210_207.out _ | refine IsS67.far ?_ NB210_214.out _) | exact HI210.out)); (case side2 => repeat (first | (with_reducible first | exact HB.out | apply zL | apply zP | apply zW | refine zS ?_ (IsS67.ge HI210.out) | refine zS ?_ GE207.out | refine zS ?_ GE214.out) | exact HB.out)); rintro e w18 ⟨rfl, hi, hb, hk⟩; refine ⟨_, rfl, ?_⟩; have n0_ := zM (KeepBut.blk hk (g' := gb207) (o := .cells #[.bool false, .slice none 0 0, .int .i64 0, .int .u64 0, .int .u64 0, .slice none 0 0] 26 (0, 0)) (by (with_reducible repeat (first | refine zN ?_ _ | refine zD ?_ | refine zA ?_ _)); exact BK207.out) NB207_210.out (by simp)); have n1_ := zM (KeepBut.blk hk (g' := gb214) (o := .cells #[.bool true, .slice none 0 0, .int .i64 0, .int .u64 0, .int .u64 0, .slice none 0 0] 26 (0, 0)) (by (with_reducible repeat (first | refine zN ?_ _ | refine zD ?_ | refine zA ?_ _)); exact BK214.out) NB214_210.out (by simp)); have n2_ := zM (hb); have n3_ := zM (hi); clear BK207; clear BK214; clear HB; clear HI210; have BK207 := n0_; have BK214 := n1_; have HB := n2_; have HI210 := n3_; clear n0_ n1_ n2_ n3_; (try clear hb); (try clear hb2); (try clear hk); (try clear hi); have hnb19 := NB214_207.out; have hnc19 := NB207_214.out; have hnb20 := NB214_210.out; have hnc20 := NB210_214.out; have hcz21_0 : w18.cell? ⟨gb214, 0, none⟩ = some (.bool true) := (zC BK214.out 0).trans rfl; have hcz21_1 : w18.cell? ⟨gb214, 1, none⟩ = some (.slice none 0 0) := (zC BK214.out 1).trans rfl; have hcz21_2 : w18.cell? ⟨gb214, 2, none⟩ = some (.int .i64 0) := (zC BK214.out 2).trans rfl; have hcz21_3 : w18.cell? ⟨gb214, 3, none⟩ = some (.int .u64 0) := (zC BK214.out 3).trans rfl; have hcz21_4 : w18.cell? ⟨gb214, 4, none⟩ = some (.int .u64 0) := (zC BK214.out 4).trans rfl; have hcz21_5 : w18.cell? ⟨gb214, 5, none⟩ = some (.slice none 0 0) := (zC BK214.out 5).trans rfl; have hfz21_0 := zF BK214.out 0; have hfz21_1 := zF BK214.out 1; have hfz21_2 := zF BK214.out 2; have hfz21_3 := zF BK214.out 3; have hfz21_4 := zF BK214.out 4; have hfz21_5 := zF BK214.out 5))
   go_meet
   case rel => exact ⟨_, (t222), (t223), (([] : List Int)), (wrap64 (t215)), (t218), (t221), (.slice none 0 0), H', ⟨by first | omega | exact Nat.le_refl _⟩, ⟨by first | exact Kd.R_nil _ _ _ _ _ | exact Kd.N_nil _ _ _ _ _ | exact Kd.V_nil _ _ _ _ _ | exact Kd.Q_nil _ _ _ _ _ | exact Kd.S_nil _ _ _ _ _⟩, ⟨by (with_reducible repeat (first | refine zN ?_ _ | refine zD ?_ | refine zA ?_ _)); refine blk_far ?_ NB207_214.out _; (with_reducible repeat (first | refine zN ?_ _ | refine zD ?_ | refine zA ?_ _)); refine blk_far ?_ NB207_214.out _; (with_reducible repeat (first | refine zN ?_ _ | refine zD ?_ | refine zA ?_ _)); refine blk_far ?_ NB207_214.out _; (with_reducible repeat (first | refine zN ?_ _ | refine zD ?_ | refine zA ?_ _)); exact BK207.out⟩, ⟨by (with_reducible repeat (first | refine zN ?_ _ | refine zD ?_ | refine zA ?_ _)); refine blk_put (cs := #[.bool true, .slice none 0 0, .int .i64 (wrap64 (t215)), .int .u64 t218, .int .u64 0, .slice none 0 0]) ?_ 4 _ rfl; (with_reducible repeat (first | refine zN ?_ _ | refine zD ?_ | refine zA ?_ _)); refine blk_put (cs := #[.bool true, .slice none 0 0, .int .i64 (wrap64 (t215)), .int .u64 0, .int .u64 0, .slice none 0 0]) ?_ 3 _ rfl; (with_reducible repeat (first | refine zN ?_ _ | refine zD ?_ | refine zA ?_ _)); refine blk_put (cs := #[.bool true, .slice none 0 0, .int .i64 0, .int .u64 0, .int .u64 0, .slice none 0 0]) ?_ 2 _ rfl; (with_reducible repeat (first | refine zN ?_ _ | refine zD ?_ | refine zA ?_ _)); exact BK214.out⟩, ⟨by repeat (first | (with_reducible first | exact HI210.out | apply IsS67.alloc | apply IsS67.drewN | apply IsS67.drew | apply IsS67.set_0 | apply IsS67.set_1 | refine IsS67.far ?_ NB210_207.out _ | refine IsS67.far ?_ NB210_214.out _) | exact HI210.out)⟩, ⟨by repeat (first | (with_reducible first | exact HB.out | apply zL | apply zP | apply zW | refine zS ?_ (IsS67.ge HI210.out) | refine zS ?_ GE207.out | refine zS ?_ GE214.out) | exact HB.out)⟩⟩
  ·replace c12 := Bool.eq_false_iff.mpr c12
   subst c12
   have H1 : ((code_Reader_Num.f k t212 t213 8).bind fun bt224 => (record_Get.l0 k a0 bt224.1 0 bt224.2.1 bt224.2.2 false ([] : List Int) 0 0 0)) = some (r1, r2, r3, r4, r5, r6, r7) := by rw [if_neg (show ¬ (false = true) by decide)] at H; exact H
   clear H
   have H := H1
   clear H1
   replace H := Option.bind_eq_some_iff.mp H
   obtain ⟨⟨t224, t225, t226⟩, A220, H⟩ := H
   replace H : (record_Get.l0 k a0 t224 0 t225 t226 false ([] : List Int) 0 0 0) = some (r1, r2, r3, r4, r5, r6, r7) := H
   have A22 := zM A220
   clear A220
   have H' := zM H
   clear H
   go_wp2_with (first | ((with_reducible refine gate_callee (f := 26) rfl ?_); refine goesL_ (some 25) rfl rfl Tryd.func26 (by kernel_rfl) rfl #[.pointer (some ⟨g210, 0, none⟩), .int .u64 8] rfl (by (try simp only [zY, List.map_cons, List.map_nil]); first | done | rfl | (simp only [zV, zX]; rfl)) ?_; (with_reducible refine (code_Reader_Num.calls k g210 t212 t213 8 t224 t225 t226 w _ ?side1 ?side2 A22.out).mono ?_); (case side1 => repeat (first | (with_reducible first | exact HI210.out | apply IsS67.alloc | apply IsS67.drewN | apply IsS67.drew | apply IsS67.set_0 | apply IsS67.set_1 | refine IsS67.far ?_ NB210_207.out _ | refine IsS67.far ?_ NB210_214.out _) | exact HI210.out)); (case side2 => repeat (first | (with_reducible first | exact HB.out | apply zL | apply zP | apply zW | refine zS ?_ (IsS67.ge HI210.out) | refine zS ?_ GE207.out | refine zS ?_ GE214.out) | exact HB.out)); rintro e w23 ⟨rfl, hi, hb, hk⟩; refine ⟨_, rfl, ?_⟩; have n0_ := zM (KeepBut.blk hk (g' := gb207) (o := .cells #[.bool false, .slice none 0 0, .int .i64 0, .int .u64 0, .int .u64 0, .slice none 0 0] 26 (0, 0)) (by (with_reducible repeat (first | refine zN ?_ _ | refine zD ?_ | refine zA ?_ _)); refine blk_far ?_ NB207_214.out _; (with_reducible repeat (first | refine zN ?_ _ | refine zD ?_ | refine zA ?_ _)); refine blk_far ?_ NB207_214.out _; (with_reducible repeat (first | refine zN ?_ _ | refine zD ?_ | refine zA ?_ _)); refine blk_far ?_ NB207_214.out _; (with_reducible repeat (first | refine zN ?_ _ | refine zD ?_ | refine zA ?_ _)); refine blk_far ?_ NB207_214.out _; (with_reducible repeat (first | refine zN ?_ _ | refine zD ?_ | refine zA ?_ _)); refine blk_far ?_ NB207_214.out _; (with_reducible repeat (first | refine zN ?_ _ | refine zD ?_ | refine zA ?_ _)); refine blk_far ?_ NB207_214.out _; (with_reducible repeat (first | refine zN ?_ _ | refine zD ?_ | refine zA ?_ _)); exact BK207.out) NB207_210.out (by simp)); have n1_ := zM (KeepBut.blk hk (g' := gb214) (o := .cells #[.bool false, .slice none 0 0, .int .i64 0, .int .u64 0, .int .u64 0, .slice none 0 0] 26 (0, 0)) (by (with_reducible repeat (first | refine zN ?_ _ | refine zD ?_ | refine zA ?_ _)); refine blk_put (cs := #[.bool false, .slice none 0 0, .int .i64 0, .int .u64 0, .int .u64 0, .slice none 0 0]) ?_ 5 _ rfl; (with_reducible repeat (first | refine zN ?_ _ | refine zD ?_ | refine zA ?_ _)); refine blk_put (cs := #[.bool false, .slice none 0 0, .int .i64 0, .int .u64 0, .int .u64 0, .slice none 0 0]) ?_ 4 _ rfl; (with_reducible repeat (first | refine zN ?_ _ | refine zD ?_ | refine zA ?_ _)); refine blk_put (cs := #[.bool false, .slice none 0 0, .int .i64 0, .int .u64 0, .int .u64 0, .slice none 0 0]) ?_ 3 _ rfl; (with_reducible repeat (first | refine zN ?_ _ | refine zD ?_ | refine zA ?_ _)); refine blk_put (cs := #[.bool false, .slice none 0 0, .int .i64 0, .int .u64 0, .int .u64 0, .slice none 0 0]) ?_ 2 _ rfl; (with_reducible repeat (first | refine zN ?_ _ | refine zD ?_ | refine zA ?_ _)); refine blk_put (cs := #[.bool false, .slice none 0 0, .int .i64 0, .int .u64 0, .int .u64 0, .slice none 0 0]) ?_ 1 _ rfl; (with_reducible repeat (first | refine zN ?_ _ | refine zD ?_ | refine zA ?_ _)); refine blk_put (cs := #[.bool false, .slice none 0 0, .int .i64 0, .int .u64 0, .int .u64 0, .slice none 0 0]) ?_ 0 _ rfl; (with_reducible repeat (first | refine zN ?_ _ | refine zD ?_ | refine zA ?_ _)); exact BK214.out) NB214_210.out (by simp)); have n2_ := zM (hb); have n3_ := zM (hi); clear BK207; clear BK214; clear HB; clear HI210; have BK207 := n0_; have BK214 := n1_; have HB := n2_; have HI210 := n3_; clear n0_ n1_ n2_ n3_; (try clear hb); (try clear hb2); (try clear hk); (try clear hi)))
   go_loopg [26] k (fun kq v26 w' => ∃ (x26_1 : Int) (x211000_1 : ByteArray) (x211001_1 : Int) (x215001_1 : List Int) (u215001 : Value), v26 = .int .u64 x26_1 ∧ Aside0 (record_Get.l0 kq a0 t224 x26_1 x211000_1 x211001_1 false x215001_1 0 0 0 = some (r1, r2, r3, r4, r5, r6, r7)) ∧ Aside0 (kq ≤ k) ∧ Aside0 (Kd.R (Kd.int .i64) 3 w' w.heap.size (fun _ => True) u215001 x215001_1) ∧ Aside0 (w'.heap[gb207]? = some (.cells #[.bool false, (.slice none 0 0), .int .i64 0, .int .u64 0, .int .u64 0, (.slice none 0 0)] 26 (0, 0))) ∧ Aside0 (w'.heap[gb214]? = some (.cells #[.bool false, u215001, .int .i64 0, .int .u64 0, .int .u64 0, (.slice none 0 0)] 26 (0, 0))) ∧ Aside0 (IsS67 w w' g210 x211000_1 x211001_1) ∧ Aside0 (Below w.heap.size w w'))
   case atStart => exact ⟨(0), (t225), (t226), (([] : List Int)), (.slice none 0 0), (by first | rfl | (simp; done) | (simp [*]; done)), H', ⟨Nat.le_refl _⟩, ⟨by first | exact Kd.R_nil _ _ _ _ _ | exact Kd.N_nil _ _ _ _ _ | exact Kd.V_nil _ _ _ _ _ | exact Kd.Q_nil _ _ _ _ _ | exact Kd.S_nil _ _ _ _ _⟩, ⟨by (with_reducible repeat (first | refine zN ?_ _ | refine zD ?_ | refine zA ?_ _)); exact BK207.out⟩, ⟨by (with_reducible repeat (first | refine zN ?_ _ | refine zD ?_ | refine zA ?_ _)); exact BK214.out⟩, ⟨by repeat (first | (with_reducible first | exact HI210.out | apply IsS67.alloc | apply IsS67.drewN | apply IsS67.drew | apply IsS67.set_0 | apply IsS67.set_1 | refine IsS67.far ?_ NB210_207.out _ | refine IsS67.far ?_ NB210_214.out _) | exact HI210.out)⟩, ⟨by repeat (first | (with_reducible first | exact HB.out | apply zL | apply zP | apply zW | refine zS ?_ (IsS67.ge HI210.out) | refine zS ?_ GE207.out | refine zS ?_ GE214.out) | exact HB.out)⟩⟩
   case round =>
    clear H'
    try clear c1
    try clear c2
    try clear p2
    try clear p6
    try clear c8
    try clear c9
    try clear c10
    try clear c12
    try clear c19
    try clear c20
    try clear hcz11_0
    try clear hcz11_1
    try clear hcz11_2
    try clear hcz11_3
    try clear hcz11_4
    try clear hcz11_5
    try clear hcz21_0
    try clear hcz21_1
    try clear hcz21_2
    try clear hcz21_3
    try clear hcz21_4
    try clear hcz21_5
    try clear hfz11_0
    try clear hfz11_1
    try clear hfz11_2
    try clear hfz11_3
    try clear hfz11_4
    try clear hfz11_5
    try clear hfz21_0
    try clear hfz21_1
    try clear hfz21_2
    try clear hfz21_3
    try clear hfz21_4
    try clear hfz21_5
    obtain ⟨x26_1, x211000_1, x211001_1, x215001_1, u215001, rfl, HA, HK1, HO_215001, BK207, BK214, HI210, HB⟩ := hrel
    cases gk with
    | zero => exact absurd HA.out (by simp [record_Get.l0])
    | succ k1 =>
     have H := HA.out
     clear HA
     simp only [record_Get.l0] at H
     by_cases c24 : x26_1 < t224
     ·rw [if_pos c24] at H
      have c24b0 : decide (x26_1 < t224) = true := decide_eq_true c24
      clear c24
      (first | rw [c24b0] | (simp only [i64_w, i32_w]; rw [c24b0]) | skip)
      replace H := Option.bind_eq_some_iff.mp H
      obtain ⟨⟨t227, t228, t229⟩, A250, H⟩ := H
      replace H : (if x215001_1.length < 17592186044416 then (record_Get.l0 k1 a0 t224 (IntKind.u64.wrap (x26_1 + 1)) t228 t229 false (x215001_1 ++ [wrap64 (t227)]) 0 0 0) else (none)) = some (r1, r2, r3, r4, r5, r6, r7) := H
      have A25 := zM A250
      clear A250
      by_cases c26 : x215001_1.length < 17592186044416
      ·rw [if_pos c26] at H
       have LMc26 := zM c26
       clear c26
       obtain ⟨y230, hy230⟩ : ∃ y_ : List Int, y_ = (x215001_1 ++ [wrap64 (t227)]) := ⟨_, rfl⟩
       replace H : (record_Get.l0 k1 a0 t224 (IntKind.u64.wrap (x26_1 + 1)) t228 t229 false y230 0 0 0) = some (r1, r2, r3, r4, r5, r6, r7) := by first | (rw [hy230]; with_reducible exact H) | (have H2_ := (Option.bind_some _ _).symm.trans H; rw [hy230]; with_reducible exact H2_) | (have H2_ := (Option.bind_some _ _).symm.trans H; with_reducible exact H2_) | with_reducible exact H | (rw [hy230]; exact H) | exact H
       have Ny230 := zM hy230
       clear hy230
       have H' := zM H
       clear H
       try go_wp2
       have n0_ := zM (Kd.R_drew HO_215001.out)
       have n1_ := zM (zD BK207.out)
       have n2_ := zM (zD BK214.out)
       have n3_ := zM (IsS67.drew HI210.out)
       have n4_ := zM (zW HB.out)
       clear HO_215001
       clear BK207
       clear BK214
       clear HI210
       clear HB
       have HO_215001 := n0_
       have BK207 := n1_
       have BK214 := n2_
       have HI210 := n3_
       have HB := n4_
       clear n0_ n1_ n2_ n3_ n4_
       refine start_ (n := 9) (S := fun w' => w'.cell? ⟨gb214, 0, none⟩ = some (.bool false) ∧ w'.cell? ⟨gb214, 1, none⟩ = some (u215001) ∧ w'.cell? ⟨gb214, 2, none⟩ = some (.int .i64 0) ∧ w'.cell? ⟨gb214, 3, none⟩ = some (.int .u64 0) ∧ w'.cell? ⟨gb214, 4, none⟩ = some (.int .u64 0) ∧ w'.cell? ⟨gb214, 5, none⟩ = some (.slice none 0 0)) (ds := [8]) zb8_0 (by kernel_rfl) rfl rfl ⟨(zC BK214.out 0).trans rfl, (zC BK214.out 1).trans rfl, (zC BK214.out 2).trans rfl, (zC BK214.out 3).trans rfl, (zC BK214.out 4).trans rfl, (zC BK214.out 5).trans rfl⟩ (fun hHeld => ?_); refine with_tabW record_Get.tab7 record_Get.bits7 (fun HT_ HW_ => ?_)
       generalize wr.drew = w27 at HO_215001 BK207 BK214 HI210 HB hHeld ⊢
       refine pure_ (i := 0) (N := some 28) (v := ?_) (a' := ?_) zb8_1 rfl rfl (any_of HT_.out (by kernel_rfl)) (fun _ _ _ h => h) (Or.inl ⟨by rfl, ?_⟩) ?_ ?_
       rotate_left
       ·intro w'
        go_simp
        with_reducible rfl
       rotate_left
       ·simp only [Act.put, zT, zZ, zU, i64_w, i32_w]
        rfl
       refine pure_ (i := 2) (N := some 30) (v := ?_) (a' := ?_) zb8_2 rfl rfl (any_of HT_.out (by kernel_rfl)) (fun _ _ _ h => h) (Or.inl ⟨by rfl, ?_⟩) ?_ ?_
       rotate_left
       ·intro w'
        go_simp
        with_reducible rfl
       rotate_left
       ·simp only [Act.put, zT, zZ, zU, i64_w, i32_w]
        rfl
       refine take_ (i := 1) (N := some 29) (v := ?_) (a' := ?_) zb8_3 rfl rfl (take_ofW HT_.out HW_.out (by kernel_rfl)) (fun _ _ _ h => h) (Or.inl ⟨by rfl, ?_⟩) hHeld ?_ ?_
       rotate_left
       ·rintro w' ⟨s0, s1, s2, s3, s4, s5⟩
        go_simp
        with_reducible rfl
       rotate_left
       ·simp only [Act.put, zT, zZ, zU, i64_w, i32_w]
        rfl
       refine one_ (i := 3) (N := some 31) zb8_4 rfl rfl (one_of HT_.out (by kernel_rfl)) (by decide) (fun K hK => ?_)
       refine goes_ Tryd.func26 (by kernel_rfl) rfl #[.pointer (some ⟨g210, 0, none⟩), .int .u64 64] (by rfl) rfl rfl (by (try simp only [zY, List.map_cons, List.map_nil]); first | done | rfl | (simp only [zV, zX]; rfl)) ?_
       with_reducible refine (code_Reader_Num.calls k1 g210 x211000_1 x211001_1 64 t227 t228 t229 w _ ?side1 ?side2 A25.out).mono ?_
       (case side1 => repeat (first | (with_reducible first | exact HI210.out | apply IsS67.alloc | apply IsS67.drewN | apply IsS67.drew | apply IsS67.set_0 | apply IsS67.set_1 | refine IsS67.far ?_ NB210_207.out _ | refine IsS67.far ?_ NB210_214.out _) | exact HI210.out))
       (case side2 => repeat (first | (with_reducible first | exact HB.out | apply zL | apply zP | apply zW | refine zS ?_ (IsS67.ge HI210.out) | refine zS ?_ GE207.out | refine zS ?_ GE214.out) | exact HB.out))
       rintro e w28 ⟨rfl, hi, hb, hk⟩
       refine ⟨_, rfl, ?_⟩
       have n0_ := zM (Kd.R_mono (Kd.R_keep (IsS67.apart (show IsS67 w _ g210 x211000_1 x211001_1 from by repeat (first | (with_reducible first | exact HI210.out | apply IsS67.alloc | apply IsS67.drewN | apply IsS67.drew | apply IsS67.set_0 | apply IsS67.set_1 | refine IsS67.far ?_ NB210_207.out _ | refine IsS67.far ?_ NB210_214.out _) | exact HI210.out)) (by (with_reducible repeat (first | apply Kd.R_alloc | apply Kd.R_drewN | apply Kd.R_drew)); exact HO_215001.out) (by decide)) hk (fun _ h => h.2)) (fun _ h => h.1))
       have n1_ := zM (KeepBut.blk hk (g' := gb207) (o := .cells #[.bool false, .slice none 0 0, .int .i64 0, .int .u64 0, .int .u64 0, .slice none 0 0] 26 (0, 0)) (by (with_reducible repeat (first | refine zN ?_ _ | refine zD ?_ | refine zA ?_ _)); exact BK207.out) NB207_210.out (by simp))
       have n2_ := zM (KeepBut.blk hk (g' := gb214) (o := .cells #[.bool false, u215001, .int .i64 0, .int .u64 0, .int .u64 0, .slice none 0 0] 26 (0, 0)) (by (with_reducible repeat (first | refine zN ?_ _ | refine zD ?_ | refine zA ?_ _)); exact BK214.out) NB214_210.out (by simp))
       have n3_ := zM (hb)
       have n4_ := zM (hi)
       clear HO_215001
       clear BK207
       clear BK214
       clear HB
       clear HI210
       have HO_215001 := n0_
       have BK207 := n1_
       have BK214 := n2_
       have HB := n3_
       have HI210 := n4_
       clear n0_ n1_ n2_ n3_ n4_
       (try clear hb)
       (try clear hb2)
       (try clear hk)
       (try clear hi)
       refine hK.out _ _ ⟨(zC BK214.out 0).trans rfl, (zC BK214.out 1).trans rfl, (zC BK214.out 2).trans rfl, (zC BK214.out 3).trans rfl, (zC BK214.out 4).trans rfl, (zC BK214.out 5).trans rfl⟩ (fun hHeld => ?_)
       clear hK K
       refine norm_ (a' := ?_) ?_ ?_
       rotate_left
       ·show Act.put _ (some 31) _ = _
        simp only [Act.put, zT, zZ, zU, i64_w, i32_w]
        rfl
       refine pure_ (i := 4) (N := some 32) (v := ?_) (a' := ?_) #[true, true, true, true, true, false, false, false, false] rfl rfl (any_of HT_.out (by kernel_rfl)) (fun _ _ _ h => h) (Or.inl ⟨by rfl, ?_⟩) ?_ ?_
       rotate_left
       ·intro w'
        go_simp
        with_reducible rfl
       rotate_left
       ·simp only [Act.put, zT, zZ, zU, i64_w, i32_w]
        rfl
       refine one_ (i := 5) (N := some 33) #[true, true, true, true, true, true, false, false, false] rfl rfl (one_of HT_.out (by kernel_rfl)) (by decide) (fun K hK => ?_)
       refine value_ (w1 := ?_) (v := ?_) (by rfl) rfl ?_ ?_
       rotate_left 2
       ·go_simp
        constructor
        ·rfl
        ·rfl
       refine hK.out _ _ ⟨(zC (zA BK214.out _) 0).trans rfl, (zC (zA BK214.out _) 1).trans rfl, (zC (zA BK214.out _) 2).trans rfl, (zC (zA BK214.out _) 3).trans rfl, (zC (zA BK214.out _) 4).trans rfl, (zC (zA BK214.out _) 5).trans rfl⟩ (fun hHeld => ?_)
       clear hK K
       refine norm_ (a' := ?_) ?_ ?_
       rotate_left
       ·show Act.put _ (some 33) _ = _
        simp only [Act.put, zT, zZ, zU, i64_w, i32_w]
        rfl
       refine one_ (i := 6) (N := some 34) #[true, true, true, true, true, true, true, false, false] rfl rfl (one_of HT_.out (by kernel_rfl)) (by decide) (fun K hK => ?_)
       refine Kd.R_append_step (Kd.int .i64) (w0 := w) w.heap.size (by rfl) (.tmp 29) (.tmp 33) 22 3 (.int .i64 0) 8 rfl Tryd.underlying22 info3 rfl (by decide) (by omega) u215001 x215001_1 (wrap64 (t227)) [.int .i64 (wrap64 (t227))] (fun _ => True) (fun _ => False) rfl rfl ?aP (fun _ hk => hk.elim) ?aF ?aO ?aB ?aS ?aL ?_
       (case aP => exact rfl)
       (case aB => exact (by repeat (first | (with_reducible first | exact HB.out | apply zL | apply zP | apply zW | refine zS ?_ (IsS67.ge HI210.out) | refine zS ?_ GE207.out | refine zS ?_ GE214.out) | exact HB.out)))
       (case aF => exact (fun _ _ => trivial))
       (case aO => exact (by (with_reducible repeat (first | apply Kd.R_alloc | apply Kd.R_drewN | apply Kd.R_drew)); exact HO_215001.out))
       (case aS => exact (below_size (by repeat (first | (with_reducible first | exact HB.out | apply zL | apply zP | apply zW | refine zS ?_ (IsS67.ge HI210.out) | refine zS ?_ GE207.out | refine zS ?_ GE214.out) | exact HB.out))))
       (case aL => have := LMc26.out; omega)
       intro v231 w29 ho hb hg hat
       rw [← Ny230.out] at ho
       have n0_ := zM (blk_grown (g := gb207) (o := .cells #[.bool false, .slice none 0 0, .int .i64 0, .int .u64 0, .int .u64 0, .slice none 0 0] 26 (0, 0)) (by (with_reducible repeat (first | refine zN ?_ _ | refine zD ?_ | refine zA ?_ _)); exact BK207.out) hg (Kd.R_ne HO_215001.out BK207.out (by decide)))
       have n1_ := zM (blk_grown (g := gb214) (o := .cells #[.bool false, u215001, .int .i64 0, .int .u64 0, .int .u64 0, .slice none 0 0] 26 (0, 0)) (by (with_reducible repeat (first | refine zN ?_ _ | refine zD ?_ | refine zA ?_ _)); exact BK214.out) hg (Kd.R_ne HO_215001.out BK214.out (by decide)))
       have n2_ := zM (IsS67.grown (by first | exact (IsS67.far (IsS67.far (IsS67.far HI210.out NB210_214.out _) NB210_214.out _) NB210_214.out _) | exact (IsS67.far (IsS67.far (IsS67.far (IsS67.far HI210.out NB210_214.out _) NB210_214.out _) NB210_214.out _) NB210_214.out _) | exact (IsS67.far (IsS67.far HI210.out NB210_214.out _) NB210_214.out _) | exact (IsS67.far HI210.out NB210_214.out _) | (repeat (first | (with_reducible first | exact HI210.out | apply IsS67.alloc | apply IsS67.drewN | apply IsS67.drew | apply IsS67.set_0 | apply IsS67.set_1 | refine IsS67.far ?_ NB210_207.out _ | refine IsS67.far ?_ NB210_214.out _) | exact HI210.out))) hg (IsS67.own_ne HI210.out HO_215001.out (by decide)))
       have n3_ := zM (hb)
       have n4_ := zM (ho)
       clear BK207
       clear BK214
       clear HI210
       clear HB
       clear HO_215001
       have BK207 := n0_
       have BK214 := n1_
       have HI210 := n2_
       have HB := n3_
       have HO232 := n4_
       clear n0_ n1_ n2_ n3_ n4_
       clear ho hb hg hat
       obtain ⟨Ao30, co30, eo30⟩ := Kd.R_slice HO232.out
       (first | subst eo30 | (injection eo30 with f1_ f2_ f3_; have f4_ := f1_.symm; have f5_ := f3_.symm; clear f1_ f2_ f3_; subst f4_; subst f5_))
       refine hK.out _ _ ⟨(zC BK214.out 0).trans rfl, (zC BK214.out 1).trans rfl, (zC BK214.out 2).trans rfl, (zC BK214.out 3).trans rfl, (zC BK214.out 4).trans rfl, (zC BK214.out 5).trans rfl⟩ (fun hHeld => ?_)
       clear hK K
       refine norm_ (a' := ?_) ?_ ?_
       rotate_left
       ·show Act.put _ (some 34) _ = _
        simp only [Act.put, zT, zZ, zU, i64_w, i32_w]
        rfl
       refine pure_ (i := 7) (N := some 35) (v := ?_) (a' := ?_) #[true, true, true, true, true, true, true, true, false] rfl rfl (any_of HT_.out (by kernel_rfl)) (fun _ _ _ h => h) (Or.inl ⟨by rfl, ?_⟩) ?_ ?_
       rotate_left
       ·intro w'
        go_simp
        with_reducible rfl
       rotate_left
       ·simp only [Act.put, zT, zZ, zU, i64_w, i32_w]
        rfl
       refine last_ (i := 8) (N := none) #[true, true, true, true, true, true, true, true, true] rfl rfl (one_of HT_.out (by kernel_rfl)) (by decide) (fun K hK => ?_)
       have hs31 : w29.cell? ⟨gb214, 1, none⟩ = some (u215001) := (zC BK214.out 1).trans rfl
       have hfs31 := zF BK214.out 1
       have hns31_0 := NB207_214.out
       have hms31_0 := NB214_207.out
       refine skip_ (w1 := ?_) (by rfl) rfl ?_ ?_
       rotate_left
       ·go_simp
        rfl
       refine hK.out _ _ ?_
       clear hK K
       refine done_ (done_of HT_.out (by kernel_rfl)) ?_
       try go_wp2
       go_roundg k1
       case measure => have := HK1.out; omega
       case rel => exact ⟨(IntKind.u64.wrap (x26_1 + 1)), (t228), (t229), (y230), (.slice Ao30 y230.length co30), (by first | rfl | (simp; done) | (simp [*]; done)), H', ⟨by have := HK1.out; omega⟩, ⟨by (with_reducible repeat (first | apply Kd.R_alloc | apply Kd.R_drewN | apply Kd.R_drew)); exact Kd.R_mono (Kd.R_far (p := ⟨gb214, 1, none⟩) (Kd.R_types HO232.out BK214.out (by decide)) (fun _ hk => hk.2) (.slice Ao30 y230.length co30)) (fun _ hk => trivial)⟩, ⟨by (with_reducible repeat (first | refine zN ?_ _ | refine zD ?_ | refine zA ?_ _)); refine blk_far ?_ NB207_214.out _; (with_reducible repeat (first | refine zN ?_ _ | refine zD ?_ | refine zA ?_ _)); exact BK207.out⟩, ⟨by (with_reducible repeat (first | refine zN ?_ _ | refine zD ?_ | refine zA ?_ _)); refine blk_put (cs := #[.bool false, u215001, .int .i64 0, .int .u64 0, .int .u64 0, .slice none 0 0]) ?_ 1 _ rfl; (with_reducible repeat (first | refine zN ?_ _ | refine zD ?_ | refine zA ?_ _)); exact BK214.out⟩, ⟨by repeat (first | (with_reducible first | exact HI210.out | apply IsS67.alloc | apply IsS67.drewN | apply IsS67.drew | apply IsS67.set_0 | apply IsS67.set_1 | refine IsS67.far ?_ NB210_207.out _ | refine IsS67.far ?_ NB210_214.out _) | exact HI210.out)⟩, ⟨by repeat (first | (with_reducible first | exact HB.out | apply zL | apply zP | apply zW | refine zS ?_ (IsS67.ge HI210.out) | refine zS ?_ GE207.out | refine zS ?_ GE214.out) | exact HB.out)⟩⟩
      ·rw [if_neg c26] at H
       exact absurd H (by simp)
     ·rw [if_neg c24] at H
      have c24b0 : decide (x26_1 < t224) = false := decide_eq_false c24
      clear c24
      (first | rw [c24b0] | (simp only [i64_w, i32_w]; rw [c24b0]) | skip)
      have H' := zM H
      clear H
      go_wp2
      go_meet
      case rel => exact ⟨_, (x211000_1), (x211001_1), (x215001_1), (0), (0), (0), (u215001), H', ⟨by have := HK1.out; first | omega | exact Nat.le_refl _⟩, ⟨by (with_reducible repeat (first | apply Kd.R_alloc | apply Kd.R_drewN | apply Kd.R_drew)); exact HO_215001.out⟩, ⟨by (with_reducible repeat (first | refine zN ?_ _ | refine zD ?_ | refine zA ?_ _)); exact BK207.out⟩, ⟨by (with_reducible repeat (first | refine zN ?_ _ | refine zD ?_ | refine zA ?_ _)); exact BK214.out⟩, ⟨by repeat (first | (with_reducible first | exact HI210.out | apply IsS67.alloc | apply IsS67.drewN | apply IsS67.drew | apply IsS67.set_0 | apply IsS67.set_1 | refine IsS67.far ?_ NB210_207.out _ | refine IsS67.far ?_ NB210_214.out _) | exact HI210.out)⟩, ⟨by repeat (first | (with_reducible first | exact HB.out | apply zL | apply zP | apply zW | refine zS ?_ (IsS67.ge HI210.out) | refine zS ?_ GE207.out | refine zS ?_ GE214.out) | exact HB.out)⟩⟩
 case rest =>
  clear HC4
  try clear c1
  try clear c2
  try clear p2
  try clear p6
  try clear c8
  try clear c9
  try clear c10
  try clear c12
  try clear c19
  try clear c20
  try clear c24
  try clear c24b0
  try clear c25
  try clear c26
  try clear hcz11_0
  try clear hcz11_1
  try clear hcz11_2
  try clear hcz11_3
  try clear hcz11_4
  try clear hcz11_5
  try clear hcz21_0
  try clear hcz21_1
  try clear hcz21_2
  try clear hcz21_3
  try clear hcz21_4
  try clear hcz21_5
  try clear hfz11_0
  try clear hfz11_1
  try clear hfz11_2
  try clear hfz11_3
  try clear hfz11_4
  try clear hfz11_5
  try clear hfz21_0
  try clear hfz21_1
  try clear hfz21_2
  try clear hfz21_3
  try clear hfz21_4
  try clear hfz21_5
  try clear p2
  try clear p6
  obtain ⟨kq, x211000_3, x211001_3, x215001_3, x215002_3, x215003_3, x215004_3, u215001, HA, HJ3, HO_215001, BK207, BK214, HI210, HB⟩ := hcut
  cases kq with
  | zero => exact absurd HA.out (by simp [record_Get.j1])
  | succ kj3 =>
   have H := HA.out
   clear HA
   simp only [record_Get.j1] at H
   replace H := Option.bind_eq_some_iff.mp H
   obtain ⟨⟨t233, t234, t235⟩, A320, H⟩ := H
   replace H : (record_Get.l1 kj3 a0 t233 0 t234 t235 t211 x215001_3 x215002_3 x215003_3 x215004_3 ([] : List (S47))) = some (r1, r2, r3, r4, r5, r6, r7) := H
   have A32 := zM A320
   clear A320
   have H' := zM H
   clear H
   go_wp2_with (first | ((with_reducible refine gate_callee (f := 26) rfl ?_); refine goesL_ (some 38) rfl rfl Tryd.func26 (by kernel_rfl) rfl #[.pointer (some ⟨g210, 0, none⟩), .int .u64 16] rfl (by (try simp only [zY, List.map_cons, List.map_nil]); first | done | rfl | (simp only [zV, zX]; rfl)) ?_; (with_reducible refine (code_Reader_Num.calls kj3 g210 x211000_3 x211001_3 16 t233 t234 t235 w _ ?side1 ?side2 A32.out).mono ?_); (case side1 => repeat (first | (with_reducible first | exact HI210.out | apply IsS67.alloc | apply IsS67.drewN | apply IsS67.drew | apply IsS67.set_0 | apply IsS67.set_1 | refine IsS67.far ?_ NB210_207.out _ | refine IsS67.far ?_ NB210_214.out _) | exact HI210.out)); (case side2 => repeat (first | (with_reducible first | exact HB.out | apply zL | apply zP | apply zW | refine zS ?_ (IsS67.ge HI210.out) | refine zS ?_ GE207.out | refine zS ?_ GE214.out) | exact HB.out)); rintro e w33 ⟨rfl, hi, hb, hk⟩; refine ⟨_, rfl, ?_⟩; have n0_ := zM (Kd.R_mono (Kd.R_keep (IsS67.apart (show IsS67 w _ g210 x211000_3 x211001_3 from by repeat (first | (with_reducible first | exact HI210.out | apply IsS67.alloc | apply IsS67.drewN | apply IsS67.drew | apply IsS67.set_0 | apply IsS67.set_1 | refine IsS67.far ?_ NB210_207.out _ | refine IsS67.far ?_ NB210_214.out _) | exact HI210.out)) (by (with_reducible repeat (first | apply Kd.R_alloc | apply Kd.R_drewN | apply Kd.R_drew)); exact HO_215001.out) (by decide)) hk (fun _ h => h.2)) (fun _ h => h.1)); have n1_ := zM (KeepBut.blk hk (g' := gb207) (o := .cells #[.bool false, .slice none 0 0, .int .i64 0, .int .u64 0, .int .u64 0, .slice none 0 0] 26 (0, 0)) (by (with_reducible repeat (first | refine zN ?_ _ | refine zD ?_ | refine zA ?_ _)); exact BK207.out) NB207_210.out (by simp)); have n2_ := zM (KeepBut.blk hk (g' := gb214) (o := .cells #[.bool t211, u215001, .int .i64 x215002_3, .int .u64 x215003_3, .int .u64 x215004_3, .slice none 0 0] 26 (0, 0)) (by (with_reducible repeat (first | refine zN ?_ _ | refine zD ?_ | refine zA ?_ _)); exact BK214.out) NB214_210.out (by simp)); have n3_ := zM (hb); have n4_ := zM (hi); clear HO_215001; clear BK207; clear BK214; clear HB; clear HI210; have HO_215001 := n0_; have BK207 := n1_; have BK214 := n2_; have HB := n3_; have HI210 := n4_; clear n0_ n1_ n2_ n3_ n4_; (try clear hb); (try clear hb2); (try clear hk); (try clear hi)))
   go_loopg [39] kj3 (fun kq v39 w' => ∃ (x39_2 : Int) (x211000_2 : ByteArray) (x211001_2 : Int) (x215005_2 : List (S47)) (u215005 : Value), v39 = .int .u64 x39_2 ∧ Aside0 (record_Get.l1 kq a0 t233 x39_2 x211000_2 x211001_2 t211 x215001_3 x215002_3 x215003_3 x215004_3 x215005_2 = some (r1, r2, r3, r4, r5, r6, r7)) ∧ Aside0 (kq ≤ kj3) ∧ Aside0 (Kd.R (Kd.int .i64) 3 w' w.heap.size (fun _ => True) u215001 x215001_3) ∧ Aside0 (Kd.R k47 47 w' w.heap.size (fun _ => True) u215005 x215005_2) ∧ Aside0 (w'.heap[gb207]? = some (.cells #[.bool false, (.slice none 0 0), .int .i64 0, .int .u64 0, .int .u64 0, (.slice none 0 0)] 26 (0, 0))) ∧ Aside0 (w'.heap[gb214]? = some (.cells #[.bool t211, u215001, .int .i64 x215002_3, .int .u64 x215003_3, .int .u64 x215004_3, u215005] 26 (0, 0))) ∧ Aside0 (IsS67 w w' g210 x211000_2 x211001_2) ∧ Aside0 (Below w.heap.size w w'))
   case atStart => exact ⟨(0), (t234), (t235), (([] : List (S47))), (.slice none 0 0), (by first | rfl | (simp; done) | (simp [*]; done)), H', ⟨Nat.le_refl _⟩, ⟨by (with_reducible repeat (first | apply Kd.R_alloc | apply Kd.R_drewN | apply Kd.R_drew)); exact HO_215001.out⟩, ⟨by first | exact Kd.R_nil _ _ _ _ _ | exact Kd.N_nil _ _ _ _ _ | exact Kd.V_nil _ _ _ _ _ | exact Kd.Q_nil _ _ _ _ _ | exact Kd.S_nil _ _ _ _ _⟩, ⟨by (with_reducible repeat (first | refine zN ?_ _ | refine zD ?_ | refine zA ?_ _)); exact BK207.out⟩, ⟨by (with_reducible repeat (first | refine zN ?_ _ | refine zD ?_ | refine zA ?_ _)); exact BK214.out⟩, ⟨by repeat (first | (with_reducible first | exact HI210.out | apply IsS67.alloc | apply IsS67.drewN | apply IsS67.drew | apply IsS67.set_0 | apply IsS67.set_1 | refine IsS67.far ?_ NB210_207.out _ | refine IsS67.far ?_ NB210_214.out _) | exact HI210.out)⟩, ⟨by repeat (first | (with_reducible first | exact HB.out | apply zL | apply zP | apply zW | refine zS ?_ (IsS67.ge HI210.out) | refine zS ?_ GE207.out | refine zS ?_ GE214.out) | exact HB.out)⟩⟩
   case round =>
    clear H'
    try clear c1
    try clear c2
    try clear p2
    try clear p6
    try clear c8
    try clear c9
    try clear c10
    try clear c12
    try clear c19
    try clear c20
    try clear c24
    try clear c24b0
    try clear c25
    try clear c26
    try clear hcz11_0
    try clear hcz11_1
    try clear hcz11_2
    try clear hcz11_3
    try clear hcz11_4
    try clear hcz11_5
    try clear hcz21_0
    try clear hcz21_1
    try clear hcz21_2
    try clear hcz21_3
    try clear hcz21_4
    try clear hcz21_5
    try clear hfz11_0
    try clear hfz11_1
    try clear hfz11_2
    try clear hfz11_3
    try clear hfz11_4
    try clear hfz11_5
    try clear hfz21_0
    try clear hfz21_1
    try clear hfz21_2
    try clear hfz21_3
    try clear hfz21_4
    try clear hfz21_5
    try clear p2
    try clear p6
    obtain ⟨x39_2, x211000_2, x211001_2, x215005_2, u215005, rfl, HA, HK2, HO_215001, HO_215005, BK207, BK214, HI210, HB⟩ := hrel
    cases gk with
    | zero => exact absurd HA.out (by simp [record_Get.l1])
    | succ k2 =>
     have H := HA.out
     clear HA
     simp only [record_Get.l1] at H
     by_cases c34 : x39_2 < t233
     ·rw [if_pos c34] at H
      have c34b0 : decide (x39_2 < t233) = true := decide_eq_true c34
      clear c34
      replace H := Option.bind_eq_some_iff.mp H
      obtain ⟨⟨t236, t237, t238⟩, A350, H⟩ := H
      replace H : ((value_Take.f k2 t237 t238).bind fun bt239 => (if x215005_2.length < 3518437208883 then (record_Get.l1 k2 a0 t233 (IntKind.u64.wrap (x39_2 + 1)) bt239.2.2.2.1 bt239.2.2.2.2 t211 x215001_3 x215002_3 x215003_3 x215004_3 (x215005_2 ++ [(⟨wrap64 (t236), (⟨bt239.1, bt239.2.1, bt239.2.2.1⟩ : S42)⟩ : S47)])) else (none))) = some (r1, r2, r3, r4, r5, r6, r7) := H
      have A35 := zM A350
      clear A350
      replace H := Option.bind_eq_some_iff.mp H
      obtain ⟨⟨t239, t240, t241, t242, t243⟩, A360, H⟩ := H
      replace H : (if x215005_2.length < 3518437208883 then (record_Get.l1 k2 a0 t233 (IntKind.u64.wrap (x39_2 + 1)) t242 t243 t211 x215001_3 x215002_3 x215003_3 x215004_3 (x215005_2 ++ [(⟨wrap64 (t236), (⟨t239, t240, t241⟩ : S42)⟩ : S47)])) else (none)) = some (r1, r2, r3, r4, r5, r6, r7) := H
      have A36 := zM A360
      clear A360
      by_cases c37 : x215005_2.length < 3518437208883
      ·rw [if_pos c37] at H
       have LMc37 := zM c37
       clear c37
       obtain ⟨y244, hy244⟩ : ∃ y_ : List (S47), y_ = (x215005_2 ++ [(⟨wrap64 (t236), (⟨t239, t240, t241⟩ : S42)⟩ : S47)]) := ⟨_, rfl⟩
       replace H : (record_Get.l1 k2 a0 t233 (IntKind.u64.wrap (x39_2 + 1)) t242 t243 t211 x215001_3 x215002_3 x215003_3 x215004_3 y244) = some (r1, r2, r3, r4, r5, r6, r7) := by first | (rw [hy244]; with_reducible exact H) | (have H2_ := (Option.bind_some _ _).symm.trans H; rw [hy244]; with_reducible exact H2_) | (have H2_ := (Option.bind_some _ _).symm.trans H; with_reducible exact H2_) | with_reducible exact H | (rw [hy244]; exact H) | exact H
       have Ny244 := zM hy244
       clear hy244
       have H' := zM H
       clear H
       try go_wp2
       have n0_ := zM (Kd.R_drew HO_215001.out)
       have n1_ := zM (Kd.R_drew HO_215005.out)
       have n2_ := zM (zD BK207.out)
       have n3_ := zM (zD BK214.out)
       have n4_ := zM (IsS67.drew HI210.out)
       have n5_ := zM (zW HB.out)
       clear HO_215001
       clear HO_215005
       clear BK207
       clear BK214
       clear HI210
       clear HB
       have HO_215001 := n0_
       have HO_215005 := n1_
       have BK207 := n2_
       have BK214 := n3_
       have HI210 := n4_
       have HB := n5_
       clear n0_ n1_ n2_ n3_ n4_ n5_
       refine start_ (n := 12) (S := fun w' => w'.cell? ⟨gb214, 0, none⟩ = some (.bool t211) ∧ w'.cell? ⟨gb214, 1, none⟩ = some (u215001) ∧ w'.cell? ⟨gb214, 2, none⟩ = some (.int .i64 x215002_3) ∧ w'.cell? ⟨gb214, 3, none⟩ = some (.int .u64 x215003_3) ∧ w'.cell? ⟨gb214, 4, none⟩ = some (.int .u64 x215004_3) ∧ w'.cell? ⟨gb214, 5, none⟩ = some (u215005)) (ds := [11]) zb8_5 (by kernel_rfl) rfl rfl ⟨(zC BK214.out 0).trans rfl, (zC BK214.out 1).trans rfl, (zC BK214.out 2).trans rfl, (zC BK214.out 3).trans rfl, (zC BK214.out 4).trans rfl, (zC BK214.out 5).trans rfl⟩ (fun hHeld => ?_); refine with_tabW record_Get.tab11 record_Get.bits11 (fun HT_ HW_ => ?_)
       generalize wr.drew = w38 at HO_215001 HO_215005 BK207 BK214 HI210 HB hHeld ⊢
       refine pure_ (i := 0) (N := some 41) (v := ?_) (a' := ?_) zb8_6 rfl rfl (any_of HT_.out (by kernel_rfl)) (fun _ _ _ h => h) (Or.inl ⟨by rfl, ?_⟩) ?_ ?_
       rotate_left
       ·intro w'
        go_simp
        with_reducible rfl
       rotate_left
       ·simp only [Act.put, zT, zZ, zU, i64_w, i32_w]
        rfl
       refine pure_ (i := 2) (N := some 43) (v := ?_) (a' := ?_) zb8_7 rfl rfl (any_of HT_.out (by kernel_rfl)) (fun _ _ _ h => h) (Or.inl ⟨by rfl, ?_⟩) ?_ ?_
       rotate_left
       ·intro w'
        go_simp
        with_reducible rfl
       rotate_left
       ·simp only [Act.put, zT, zZ, zU, i64_w, i32_w]
        rfl
       refine pure_ (i := 5) (N := some 46) (v := ?_) (a' := ?_) zb8_8 rfl rfl (any_of HT_.out (by kernel_rfl)) (fun _ _ _ h => h) (Or.inl ⟨by rfl, ?_⟩) ?_ ?_
       rotate_left
       ·intro w'
        go_simp
        with_reducible rfl
       rotate_left
       ·simp only [Act.put, zT, zZ, zU, i64_w, i32_w]
        rfl
       refine take_ (i := 1) (N := some 42) (v := ?_) (a' := ?_) zb8_9 rfl rfl (take_ofW HT_.out HW_.out (by kernel_rfl)) (fun _ _ _ h => h) (Or.inl ⟨by rfl, ?_⟩) hHeld ?_ ?_
       rotate_left
       ·rintro w' ⟨s0, s1, s2, s3, s4, s5⟩
        go_simp
        with_reducible rfl
       rotate_left
       ·simp only [Act.put, zT, zZ, zU, i64_w, i32_w]
        rfl
       refine one_ (i := 3) (N := some 44) zb8_10 rfl rfl (one_of HT_.out (by kernel_rfl)) (by decide) (fun K hK => ?_)
       refine goes_ Tryd.func26 (by kernel_rfl) rfl #[.pointer (some ⟨g210, 0, none⟩), .int .u64 64] (by rfl) rfl rfl (by (try simp only [zY, List.map_cons, List.map_nil]); first | done | rfl | (simp only [zV, zX]; rfl)) ?_
       with_reducible refine (code_Reader_Num.calls k2 g210 x211000_2 x211001_2 64 t236 t237 t238 w _ ?side1 ?side2 A35.out).mono ?_
       (case side1 => repeat (first | (with_reducible first | exact HI210.out | apply IsS67.alloc | apply IsS67.drewN | apply IsS67.drew | apply IsS67.set_0 | apply IsS67.set_1 | refine IsS67.far ?_ NB210_207.out _ | refine IsS67.far ?_ NB210_214.out _) | exact HI210.out))
       (case side2 => repeat (first | (with_reducible first | exact HB.out | apply zL | apply zP | apply zW | refine zS ?_ (IsS67.ge HI210.out) | refine zS ?_ GE207.out | refine zS ?_ GE214.out) | exact HB.out))
       rintro e w39 ⟨rfl, hi, hb, hk⟩
       refine ⟨_, rfl, ?_⟩
       have n0_ := zM (Kd.R_mono (Kd.R_keep (IsS67.apart (show IsS67 w _ g210 x211000_2 x211001_2 from by repeat (first | (with_reducible first | exact HI210.out | apply IsS67.alloc | apply IsS67.drewN | apply IsS67.drew | apply IsS67.set_0 | apply IsS67.set_1 | refine IsS67.far ?_ NB210_207.out _ | refine IsS67.far ?_ NB210_214.out _) | exact HI210.out)) (by (with_reducible repeat (first | apply Kd.R_alloc | apply Kd.R_drewN | apply Kd.R_drew)); exact HO_215001.out) (by decide)) hk (fun _ h => h.2)) (fun _ h => h.1))
       have n1_ := zM (Kd.R_mono (Kd.R_keep (IsS67.apart (show IsS67 w _ g210 x211000_2 x211001_2 from by repeat (first | (with_reducible first | exact HI210.out | apply IsS67.alloc | apply IsS67.drewN | apply IsS67.drew | apply IsS67.set_0 | apply IsS67.set_1 | refine IsS67.far ?_ NB210_207.out _ | refine IsS67.far ?_ NB210_214.out _) | exact HI210.out)) (by (with_reducible repeat (first | apply Kd.R_alloc | apply Kd.R_drewN | apply Kd.R_drew)); exact HO_215005.out) (by decide)) hk (fun _ h => h.2)) (fun _ h => h.1))
       have n2_ := zM (KeepBut.blk hk (g' := gb207) (o := .cells #[.bool false, .slice none 0 0, .int .i64 0, .int .u64 0, .int .u64 0, .slice none 0 0] 26 (0, 0)) (by (with_reducible repeat (first | refine zN ?_ _ | refine zD ?_ | refine zA ?_ _)); exact BK207.out) NB207_210.out (by simp))
       have n3_ := zM (KeepBut.blk hk (g' := gb214) (o := .cells #[.bool t211, u215001, .int .i64 x215002_3, .int .u64 x215003_3, .int .u64 x215004_3, u215005] 26 (0, 0)) (by (with_reducible repeat (first | refine zN ?_ _ | refine zD ?_ | refine zA ?_ _)); exact BK214.out) NB214_210.out (by simp))
       have n4_ := zM (hb)
       have n5_ := zM (hi)
       clear HO_215001
       clear HO_215005
       clear BK207
       clear BK214
       clear HB
       clear HI210
       have HO_215001 := n0_
       have HO_215005 := n1_
       have BK207 := n2_
       have BK214 := n3_
       have HB := n4_
       have HI210 := n5_
       clear n0_ n1_ n2_ n3_ n4_ n5_
       (try clear hb)
       (try clear hb2)
       (try clear hk)
       (try clear hi)
       refine hK.out _ _ ⟨(zC BK214.out 0).trans rfl, (zC BK214.out 1).trans rfl, (zC BK214.out 2).trans rfl, (zC BK214.out 3).trans rfl, (zC BK214.out 4).trans rfl, (zC BK214.out 5).trans rfl⟩ (fun hHeld => ?_)
       clear hK K
       refine norm_ (a' := ?_) ?_ ?_
       rotate_left
       ·show Act.put _ (some 44) _ = _
        simp only [Act.put, zT, zZ, zU, i64_w, i32_w]
        rfl
       refine pure_ (i := 4) (N := some 45) (v := ?_) (a' := ?_) zb8_11 rfl rfl (any_of HT_.out (by kernel_rfl)) (fun _ _ _ h => h) (Or.inl ⟨by rfl, ?_⟩) ?_ ?_
       rotate_left
       ·intro w'
        go_simp
        with_reducible rfl
       rotate_left
       ·simp only [Act.put, zT, zZ, zU, i64_w, i32_w]
        rfl
       refine one_ (i := 6) (N := some 47) zb8_12 rfl rfl (one_of HT_.out (by kernel_rfl)) (by decide) (fun K hK => ?_)
       refine goes_ Tryd.func27 (by kernel_rfl) rfl #[.pointer (some ⟨g210, 0, none⟩)] (by rfl) rfl rfl (by (try simp only [zY, List.map_cons, List.map_nil]); first | done | rfl | (simp only [zV, zX]; rfl)) ?_
       with_reducible refine (value_Take.calls k2 g210 t237 t238 t239 t240 t241 t242 t243 w _ ?side1 ?side2 A36.out).mono ?_
       (case side1 => repeat (first | (with_reducible first | exact HI210.out | apply IsS67.alloc | apply IsS67.drewN | apply IsS67.drew | apply IsS67.set_0 | apply IsS67.set_1 | refine IsS67.far ?_ NB210_207.out _ | refine IsS67.far ?_ NB210_214.out _) | exact HI210.out))
       (case side2 => repeat (first | (with_reducible first | exact HB.out | apply zL | apply zP | apply zW | refine zS ?_ (IsS67.ge HI210.out) | refine zS ?_ GE207.out | refine zS ?_ GE214.out) | exact HB.out))
       rintro e w40 ⟨rfl, hi, hb, hk⟩
       refine ⟨_, rfl, ?_⟩
       have n0_ := zM (Kd.R_mono (Kd.R_keep (IsS67.apart (show IsS67 w _ g210 t237 t238 from by repeat (first | (with_reducible first | exact HI210.out | apply IsS67.alloc | apply IsS67.drewN | apply IsS67.drew | apply IsS67.set_0 | apply IsS67.set_1 | refine IsS67.far ?_ NB210_207.out _ | refine IsS67.far ?_ NB210_214.out _) | exact HI210.out)) (by (with_reducible repeat (first | apply Kd.R_alloc | apply Kd.R_drewN | apply Kd.R_drew)); exact HO_215001.out) (by decide)) hk (fun _ h => h.2)) (fun _ h => h.1))
       have n1_ := zM (Kd.R_mono (Kd.R_keep (IsS67.apart (show IsS67 w _ g210 t237 t238 from by repeat (first | (with_reducible first | exact HI210.out | apply IsS67.alloc | apply IsS67.drewN | apply IsS67.drew | apply IsS67.set_0 | apply IsS67.set_1 | refine IsS67.far ?_ NB210_207.out _ | refine IsS67.far ?_ NB210_214.out _) | exact HI210.out)) (by (with_reducible repeat (first | apply Kd.R_alloc | apply Kd.R_drewN | apply Kd.R_drew)); exact HO_215005.out) (by decide)) hk (fun _ h => h.2)) (fun _ h => h.1))
       have n2_ := zM (KeepBut.blk hk (g' := gb207) (o := .cells #[.bool false, .slice none 0 0, .int .i64 0, .int .u64 0, .int .u64 0, .slice none 0 0] 26 (0, 0)) (by (with_reducible repeat (first | refine zN ?_ _ | refine zD ?_ | refine zA ?_ _)); exact BK207.out) NB207_210.out (by simp))
       have n3_ := zM (KeepBut.blk hk (g' := gb214) (o := .cells #[.bool t211, u215001, .int .i64 x215002_3, .int .u64 x215003_3, .int .u64 x215004_3, u215005] 26 (0, 0)) (by (with_reducible repeat (first | refine zN ?_ _ | refine zD ?_ | refine zA ?_ _)); exact BK214.out) NB214_210.out (by simp))
       have n4_ := zM (hb)
       have n5_ := zM (hi)
       clear HO_215001
       clear HO_215005
       clear BK207
       clear BK214
       clear HB
       clear HI210
       have HO_215001 := n0_
       have HO_215005 := n1_
       have BK207 := n2_
       have BK214 := n3_
       have HB := n4_
       have HI210 := n5_
       clear n0_ n1_ n2_ n3_ n4_ n5_
       (try clear hb)
       (try clear hb2)
       (try clear hk)
       (try clear hi)
       refine hK.out _ _ ⟨(zC BK214.out 0).trans rfl, (zC BK214.out 1).trans rfl, (zC BK214.out 2).trans rfl, (zC BK214.out 3).trans rfl, (zC BK214.out 4).trans rfl, (zC BK214.out 5).trans rfl⟩ (fun hHeld => ?_)
       clear hK K
       refine norm_ (a' := ?_) ?_ ?_
       rotate_left
       ·show Act.put _ (some 47) _ = _
        simp only [Act.put, zT, zZ, zU, i64_w, i32_w]
        rfl
       refine pure_ (i := 7) (N := some 48) (v := ?_) (a' := ?_) zb8_13 rfl rfl (any_of HT_.out (by kernel_rfl)) (fun _ _ _ h => h) (Or.inl ⟨by rfl, ?_⟩) ?_ ?_
       rotate_left
       ·intro w'
        go_simp
        with_reducible rfl
       rotate_left
       ·simp only [Act.put, zT, zZ, zU, i64_w, i32_w]
        rfl
       refine one_ (i := 8) (N := some 49) zb8_14 rfl rfl (one_of HT_.out (by kernel_rfl)) (by decide) (fun K hK => ?_)
       refine value_ (w1 := ?_) (v := ?_) (by rfl) rfl ?_ ?_
       rotate_left 2
       ·go_simp
        constructor
        ·rfl
        ·rfl
       refine hK.out _ _ ⟨(zC (zA BK214.out _) 0).trans rfl, (zC (zA BK214.out _) 1).trans rfl, (zC (zA BK214.out _) 2).trans rfl, (zC (zA BK214.out _) 3).trans rfl, (zC (zA BK214.out _) 4).trans rfl, (zC (zA BK214.out _) 5).trans rfl⟩ (fun hHeld => ?_)
       clear hK K
       refine norm_ (a' := ?_) ?_ ?_
       rotate_left
       ·show Act.put _ (some 49) _ = _
        simp only [Act.put, zT, zZ, zU, i64_w, i32_w]
        rfl
       refine one_ (i := 9) (N := some 50) zb8_15 rfl rfl (one_of HT_.out (by kernel_rfl)) (by decide) (fun K hK => ?_)
       refine Kd.R_append_step k47 (w0 := w) w.heap.size (by rfl) (.tmp 42) (.tmp 49) 24 47 (.agg #[(.int .i64 0), (.int .i64 0), (.int .i64 0), (.string ⟨#[]⟩)]) 40 rfl Tryd.underlying24 info47 rfl (by decide) (by omega) u215005 x215005_2 (⟨wrap64 (t236), (⟨t239, t240, t241⟩ : S42)⟩ : S47) [.int .i64 (wrap64 (t236)), .int .i64 t239, .int .i64 t240, .string t241] (fun _ => True) (fun _ => False) rfl rfl ?aP (fun _ hk => hk.elim) ?aF ?aO ?aB ?aS ?aL ?_
       (case aP => exact k47_mkM _ _ _ (⟨wrap64 (t236), (⟨t239, t240, t241⟩ : S42)⟩ : S47))
       (case aB => exact (by repeat (first | (with_reducible first | exact HB.out | apply zL | apply zP | apply zW | refine zS ?_ (IsS67.ge HI210.out) | refine zS ?_ GE207.out | refine zS ?_ GE214.out) | exact HB.out)))
       (case aF => exact (fun _ _ => trivial))
       (case aO => exact (by (with_reducible repeat (first | apply Kd.R_alloc | apply Kd.R_drewN | apply Kd.R_drew)); exact HO_215005.out))
       (case aS => exact (below_size (by repeat (first | (with_reducible first | exact HB.out | apply zL | apply zP | apply zW | refine zS ?_ (IsS67.ge HI210.out) | refine zS ?_ GE207.out | refine zS ?_ GE214.out) | exact HB.out))))
       (case aL => have := LMc37.out; omega)
       intro v245 w41 ho hb hg hat
       rw [← Ny244.out] at ho
       have n0_ := zM (Kd.R_over' (by (with_reducible repeat (first | apply Kd.R_alloc | apply Kd.R_drewN | apply Kd.R_drew)); exact HO_215001.out) (Kd.R_typed (by (with_reducible repeat (first | apply Kd.R_alloc | apply Kd.R_drewN | apply Kd.R_drew)); exact HO_215005.out)) (by decide) hg)
       have n1_ := zM (blk_grown (g := gb207) (o := .cells #[.bool false, .slice none 0 0, .int .i64 0, .int .u64 0, .int .u64 0, .slice none 0 0] 26 (0, 0)) (by (with_reducible repeat (first | refine zN ?_ _ | refine zD ?_ | refine zA ?_ _)); exact BK207.out) hg (Kd.R_ne HO_215005.out BK207.out (by decide)))
       have n2_ := zM (blk_grown (g := gb214) (o := .cells #[.bool t211, u215001, .int .i64 x215002_3, .int .u64 x215003_3, .int .u64 x215004_3, u215005] 26 (0, 0)) (by (with_reducible repeat (first | refine zN ?_ _ | refine zD ?_ | refine zA ?_ _)); exact BK214.out) hg (Kd.R_ne HO_215005.out BK214.out (by decide)))
       have n3_ := zM (IsS67.grown (by first | exact (IsS67.far (IsS67.far (IsS67.far HI210.out NB210_214.out _) NB210_214.out _) NB210_214.out _) | exact (IsS67.far (IsS67.far (IsS67.far (IsS67.far HI210.out NB210_214.out _) NB210_214.out _) NB210_214.out _) NB210_214.out _) | exact (IsS67.far (IsS67.far HI210.out NB210_214.out _) NB210_214.out _) | exact (IsS67.far HI210.out NB210_214.out _) | (repeat (first | (with_reducible first | exact HI210.out | apply IsS67.alloc | apply IsS67.drewN | apply IsS67.drew | apply IsS67.set_0 | apply IsS67.set_1 | refine IsS67.far ?_ NB210_207.out _ | refine IsS67.far ?_ NB210_214.out _) | exact HI210.out))) hg (IsS67.own_ne HI210.out HO_215005.out (by decide)))
       have n4_ := zM (hb)
       have n5_ := zM (ho)
       clear HO_215001
       clear BK207
       clear BK214
       clear HI210
       clear HB
       clear HO_215005
       have HO_215001 := n0_
       have BK207 := n1_
       have BK214 := n2_
       have HI210 := n3_
       have HB := n4_
       have HO246 := n5_
       clear n0_ n1_ n2_ n3_ n4_ n5_
       clear ho hb hg hat
       obtain ⟨Ao42, co42, eo42⟩ := Kd.R_slice HO246.out
       (first | subst eo42 | (injection eo42 with f1_ f2_ f3_; have f4_ := f1_.symm; have f5_ := f3_.symm; clear f1_ f2_ f3_; subst f4_; subst f5_))
       refine hK.out _ _ ⟨(zC BK214.out 0).trans rfl, (zC BK214.out 1).trans rfl, (zC BK214.out 2).trans rfl, (zC BK214.out 3).trans rfl, (zC BK214.out 4).trans rfl, (zC BK214.out 5).trans rfl⟩ (fun hHeld => ?_)
       clear hK K
       refine norm_ (a' := ?_) ?_ ?_
       rotate_left
       ·show Act.put _ (some 50) _ = _
        simp only [Act.put, zT, zZ, zU, i64_w, i32_w]
        rfl
       refine pure_ (i := 10) (N := some 51) (v := ?_) (a' := ?_) zb8_16 rfl rfl (any_of HT_.out (by kernel_rfl)) (fun _ _ _ h => h) (Or.inl ⟨by rfl, ?_⟩) ?_ ?_
       rotate_left
       ·intro w'
        go_simp
        with_reducible rfl
       rotate_left
       ·simp only [Act.put, zT, zZ, zU, i64_w, i32_w]
        rfl
       refine last_ (i := 11) (N := none) zb8_17 rfl rfl (one_of HT_.out (by kernel_rfl)) (by decide) (fun K hK => ?_)
       have hs43 : w41.cell? ⟨gb214, 5, none⟩ = some (u215005) := (zC BK214.out 5).trans rfl
       have hfs43 := zF BK214.out 5
       have hns43_0 := NB207_214.out
       have hms43_0 := NB214_207.out
       refine skip_ (w1 := ?_) (by rfl) rfl ?_ ?_
       rotate_left
       ·go_simp
        rfl
       refine hK.out _ _ ?_
       clear hK K
       refine done_ (done_of HT_.out (by kernel_rfl)) ?_
       try go_wp2
       go_roundg k2
       case measure => have := HJ3.out; have := HK2.out; omega
       case rel => exact ⟨(IntKind.u64.wrap (x39_2 + 1)), (t242), (t243), (y244), (.slice Ao42 y244.length co42), (by first | rfl | (simp; done) | (simp [*]; done)), H', ⟨by have := HJ3.out; have := HK2.out; omega⟩, ⟨by (with_reducible repeat (first | apply Kd.R_alloc | apply Kd.R_drewN | apply Kd.R_drew)); exact Kd.R_mono (Kd.R_far (p := ⟨gb214, 5, none⟩) (Kd.R_types HO_215001.out BK214.out (by decide)) (fun _ hk => hk.2) (.slice Ao42 y244.length co42)) (fun _ hk => trivial)⟩, ⟨by (with_reducible repeat (first | apply Kd.R_alloc | apply Kd.R_drewN | apply Kd.R_drew)); exact Kd.R_mono (Kd.R_far (p := ⟨gb214, 5, none⟩) (Kd.R_types HO246.out BK214.out (by decide)) (fun _ hk => hk.2) (.slice Ao42 y244.length co42)) (fun _ hk => trivial)⟩, ⟨by (with_reducible repeat (first | refine zN ?_ _ | refine zD ?_ | refine zA ?_ _)); refine blk_far ?_ NB207_214.out _; (with_reducible repeat (first | refine zN ?_ _ | refine zD ?_ | refine zA ?_ _)); exact BK207.out⟩, ⟨by (with_reducible repeat (first | refine zN ?_ _ | refine zD ?_ | refine zA ?_ _)); refine blk_put (cs := #[.bool t211, u215001, .int .i64 x215002_3, .int .u64 x215003_3, .int .u64 x215004_3, u215005]) ?_ 5 _ rfl; (with_reducible repeat (first | refine zN ?_ _ | refine zD ?_ | refine zA ?_ _)); exact BK214.out⟩, ⟨by repeat (first | (with_reducible first | exact HI210.out | apply IsS67.alloc | apply IsS67.drewN | apply IsS67.drew | apply IsS67.set_0 | apply IsS67.set_1 | refine IsS67.far ?_ NB210_207.out _ | refine IsS67.far ?_ NB210_214.out _) | exact HI210.out)⟩, ⟨by repeat (first | (with_reducible first | exact HB.out | apply zL | apply zP | apply zW | refine zS ?_ (IsS67.ge HI210.out) | refine zS ?_ GE207.out | refine zS ?_ GE214.out) | exact HB.out)⟩⟩
      ·rw [if_neg c37] at H
       exact absurd H (by simp)
     ·rw [if_neg c34] at H
      have c34b0 : decide (x39_2 < t233) = false := decide_eq_false c34
      clear c34
      replace H := Option.bind_eq_some_iff.mp H
      obtain ⟨⟨t247, t248, t249⟩, A440, H⟩ := H
      replace H : (if t247 = 0 then (if (a0.size : Int) > 4096 then (some (false, ([] : List Int), 0, 0, 0, ([] : List (S47)), 3)) else ((record_May.f k2 t211 x215001_3 x215002_3 x215003_3 x215004_3 x215005_2).bind fun t250 => (if t250 = true then (some (t211, x215001_3, x215002_3, x215003_3, x215004_3, x215005_2, 0)) else (some (false, ([] : List Int), 0, 0, 0, ([] : List (S47)), 3))))) else (some (false, ([] : List Int), 0, 0, 0, ([] : List (S47)), t247))) = some (r1, r2, r3, r4, r5, r6, r7) := H
      have A44 := zM A440
      clear A440
      by_cases c45 : t247 = 0
      ·rw [if_pos c45] at H
       have c45b0 : (t247 == 0) = true := beq_iff_eq.mpr c45
       have c45b1 : (t247 != 0) = false := bne_eq_false_iff_eq.mpr c45
       clear c45
       by_cases c46 : (a0.size : Int) > 4096
       ·rw [if_pos c46] at H
        have c46b0 : decide (4096 < (a0.size : Int)) = true := decide_eq_true c46
        have c46b1 : decide (4096 < a0.size) = true := decide_eq_true (by omega)
        clear c46
        simp only [Option.some.injEq, Prod.mk.injEq] at H
        obtain ⟨rfl, rfl, rfl, rfl, rfl, rfl, rfl⟩ := H
        go_wp2_with (first | ((with_reducible refine gate_callee (f := 28) rfl ?_); refine goesL_ (some 54) rfl rfl Tryd.func28 (by kernel_rfl) rfl #[.pointer (some ⟨g210, 0, none⟩)] rfl (by (try simp only [zY, List.map_cons, List.map_nil]); first | done | rfl | (simp only [zV, zX]; rfl)) ?_; (with_reducible refine (code_Reader_End.calls g210 x211000_2 x211001_2 t247 t248 t249 w _ ?side1 ?side2 A44.out).mono ?_); (case side1 => repeat (first | (with_reducible first | exact HI210.out | apply IsS67.alloc | apply IsS67.drewN | apply IsS67.drew | apply IsS67.set_0 | apply IsS67.set_1 | refine IsS67.far ?_ NB210_207.out _ | refine IsS67.far ?_ NB210_214.out _) | exact HI210.out)); (case side2 => repeat (first | (with_reducible first | exact HB.out | apply zL | apply zP | apply zW | refine zS ?_ (IsS67.ge HI210.out) | refine zS ?_ GE207.out | refine zS ?_ GE214.out) | exact HB.out)); rintro e w47 ⟨rfl, hi, hb, hk⟩; refine ⟨_, rfl, ?_⟩; have n0_ := zM (Kd.R_mono (Kd.R_keep (IsS67.apart (show IsS67 w _ g210 x211000_2 x211001_2 from by repeat (first | (with_reducible first | exact HI210.out | apply IsS67.alloc | apply IsS67.drewN | apply IsS67.drew | apply IsS67.set_0 | apply IsS67.set_1 | refine IsS67.far ?_ NB210_207.out _ | refine IsS67.far ?_ NB210_214.out _) | exact HI210.out)) (by (with_reducible repeat (first | apply Kd.R_alloc | apply Kd.R_drewN | apply Kd.R_drew)); exact HO_215001.out) (by decide)) hk (fun _ h => h.2)) (fun _ h => h.1)); have n1_ := zM (Kd.R_mono (Kd.R_keep (IsS67.apart (show IsS67 w _ g210 x211000_2 x211001_2 from by repeat (first | (with_reducible first | exact HI210.out | apply IsS67.alloc | apply IsS67.drewN | apply IsS67.drew | apply IsS67.set_0 | apply IsS67.set_1 | refine IsS67.far ?_ NB210_207.out _ | refine IsS67.far ?_ NB210_214.out _) | exact HI210.out)) (by (with_reducible repeat (first | apply Kd.R_alloc | apply Kd.R_drewN | apply Kd.R_drew)); exact HO_215005.out) (by decide)) hk (fun _ h => h.2)) (fun _ h => h.1)); have n2_ := zM (KeepBut.blk hk (g' := gb207) (o := .cells #[.bool false, .slice none 0 0, .int .i64 0, .int .u64 0, .int .u64 0, .slice none 0 0] 26 (0, 0)) (by (with_reducible repeat (first | refine zN ?_ _ | refine zD ?_ | refine zA ?_ _)); exact BK207.out) NB207_210.out (by simp)); have n3_ := zM (KeepBut.blk hk (g' := gb214) (o := .cells #[.bool t211, u215001, .int .i64 x215002_3, .int .u64 x215003_3, .int .u64 x215004_3, u215005] 26 (0, 0)) (by (with_reducible repeat (first | refine zN ?_ _ | refine zD ?_ | refine zA ?_ _)); exact BK214.out) NB214_210.out (by simp)); have n4_ := zM (hb); have n5_ := zM (hi); clear HO_215001; clear HO_215005; clear BK207; clear BK214; clear HB; clear HI210; have HO_215001 := n0_; have HO_215005 := n1_; have BK207 := n2_; have BK214 := n3_; have HB := n4_; have HI210 := n5_; clear n0_ n1_ n2_ n3_ n4_ n5_; (try clear hb); (try clear hb2); (try clear hk); (try clear hi); have hnb48 := NB207_214.out; have hnc48 := NB214_207.out; have hnb49 := NB207_210.out; have hnc49 := NB210_207.out; have hcz50_0 : w47.cell? ⟨gb207, 0, none⟩ = some (.bool false) := (zC BK207.out 0).trans rfl; have hcz50_1 : w47.cell? ⟨gb207, 1, none⟩ = some (.slice none 0 0) := (zC BK207.out 1).trans rfl; have hcz50_2 : w47.cell? ⟨gb207, 2, none⟩ = some (.int .i64 0) := (zC BK207.out 2).trans rfl; have hcz50_3 : w47.cell? ⟨gb207, 3, none⟩ = some (.int .u64 0) := (zC BK207.out 3).trans rfl; have hcz50_4 : w47.cell? ⟨gb207, 4, none⟩ = some (.int .u64 0) := (zC BK207.out 4).trans rfl; have hcz50_5 : w47.cell? ⟨gb207, 5, none⟩ = some (.slice none 0 0) := (zC BK207.out 5).trans rfl; have hfz50_0 := zF BK207.out 0; have hfz50_1 := zF BK207.out 1; have hfz50_2 := zF BK207.out 2; have hfz50_3 := zF BK207.out 3; have hfz50_4 := zF BK207.out 4; have hfz50_5 := zF BK207.out 5))
        refine bodyPost_ret (results_ct rfl _ _ gb207 26 #[.bool false, .slice none 0 0, .int .i64 0, .int .u64 0, .int .u64 0, .slice none 0 0] (0, 0) _ rfl (by (with_reducible repeat (first | refine zN ?_ _ | refine zD ?_ | refine zA ?_ _)); refine blk_put (cs := #[.bool false, .slice none 0 0, .int .i64 0, .int .u64 0, .int .u64 0, .slice none 0 0]) ?_ 5 _ rfl; (with_reducible repeat (first | refine zN ?_ _ | refine zD ?_ | refine zA ?_ _)); refine blk_put (cs := #[.bool false, .slice none 0 0, .int .i64 0, .int .u64 0, .int .u64 0, .slice none 0 0]) ?_ 4 _ rfl; (with_reducible repeat (first | refine zN ?_ _ | refine zD ?_ | refine zA ?_ _)); refine blk_put (cs := #[.bool false, .slice none 0 0, .int .i64 0, .int .u64 0, .int .u64 0, .slice none 0 0]) ?_ 3 _ rfl; (with_reducible repeat (first | refine zN ?_ _ | refine zD ?_ | refine zA ?_ _)); refine blk_put (cs := #[.bool false, .slice none 0 0, .int .i64 0, .int .u64 0, .int .u64 0, .slice none 0 0]) ?_ 2 _ rfl; (with_reducible repeat (first | refine zN ?_ _ | refine zD ?_ | refine zA ?_ _)); refine blk_put (cs := #[.bool false, .slice none 0 0, .int .i64 0, .int .u64 0, .int .u64 0, .slice none 0 0]) ?_ 1 _ rfl; (with_reducible repeat (first | refine zN ?_ _ | refine zD ?_ | refine zA ?_ _)); refine blk_put (cs := #[.bool false, .slice none 0 0, .int .i64 0, .int .u64 0, .int .u64 0, .slice none 0 0]) ?_ 0 _ rfl; (with_reducible repeat (first | refine zN ?_ _ | refine zD ?_ | refine zA ?_ _)); exact BK207.out) Tryd.underlying26 rfl (by kernel_rfl)) rfl ?_
        exact ⟨_, _, by first | rfl | (simp [errW_none, errW_some] <;> rfl) | (simp [*, errW_none, errW_some] <;> rfl), by first | exact Kd.R_nil _ _ _ _ _ | exact Kd.N_nil _ _ _ _ _ | exact Kd.V_nil _ _ _ _ _ | exact Kd.Q_nil _ _ _ _ _ | exact Kd.S_nil _ _ _ _ _, by first | exact Kd.R_nil _ _ _ _ _ | exact Kd.N_nil _ _ _ _ _ | exact Kd.V_nil _ _ _ _ _ | exact Kd.Q_nil _ _ _ _ _ | exact Kd.S_nil _ _ _ _ _, by repeat (first | (with_reducible first | exact HB.out | apply zL | apply zP | apply zW | refine zS ?_ (IsS67.ge HI210.out) | refine zS ?_ GE207.out | refine zS ?_ GE214.out) | exact HB.out)⟩
       ·rw [if_neg c46] at H
        have c46b0 : decide (4096 < (a0.size : Int)) = false := decide_eq_false c46
        have c46b1 : decide (4096 < a0.size) = false := decide_eq_false (by omega)
        clear c46
        replace H := Option.bind_eq_some_iff.mp H
        obtain ⟨t250, A510, H⟩ := H
        replace H : (if t250 = true then (some (t211, x215001_3, x215002_3, x215003_3, x215004_3, x215005_2, 0)) else (some (false, ([] : List Int), 0, 0, 0, ([] : List (S47)), 3))) = some (r1, r2, r3, r4, r5, r6, r7) := H
        have A51 := zM A510
        clear A510
        by_cases c52 : t250 = true
        ·subst c52
         have H1 : (some (t211, x215001_3, x215002_3, x215003_3, x215004_3, x215005_2, 0)) = some (r1, r2, r3, r4, r5, r6, r7) := by rw [if_pos rfl] at H; exact H
         clear H
         have H := H1
         clear H1
         simp only [Option.some.injEq, Prod.mk.injEq] at H
         obtain ⟨rfl, rfl, rfl, rfl, rfl, rfl, rfl⟩ := H
         go_wp2_with (first | ((with_reducible refine gate_callee (f := 28) rfl ?_); refine goesL_ (some 54) rfl rfl Tryd.func28 (by kernel_rfl) rfl #[.pointer (some ⟨g210, 0, none⟩)] rfl (by (try simp only [zY, List.map_cons, List.map_nil]); first | done | rfl | (simp only [zV, zX]; rfl)) ?_; (with_reducible refine (code_Reader_End.calls g210 x211000_2 x211001_2 t247 t248 t249 w _ ?side1 ?side2 A44.out).mono ?_); (case side1 => repeat (first | (with_reducible first | exact HI210.out | apply IsS67.alloc | apply IsS67.drewN | apply IsS67.drew | apply IsS67.set_0 | apply IsS67.set_1 | refine IsS67.far ?_ NB210_207.out _ | refine IsS67.far ?_ NB210_214.out _) | exact HI210.out)); (case side2 => repeat (first | (with_reducible first | exact HB.out | apply zL | apply zP | apply zW | refine zS ?_ (IsS67.ge HI210.out) | refine zS ?_ GE207.out | refine zS ?_ GE214.out) | exact HB.out)); rintro e w53 ⟨rfl, hi, hb, hk⟩; refine ⟨_, rfl, ?_⟩; have n0_ := zM (Kd.R_mono (Kd.R_keep (IsS67.apart (show IsS67 w _ g210 x211000_2 x211001_2 from by repeat (first | (with_reducible first | exact HI210.out | apply IsS67.alloc | apply IsS67.drewN | apply IsS67.drew | apply IsS67.set_0 | apply IsS67.set_1 | refine IsS67.far ?_ NB210_207.out _ | refine IsS67.far ?_ NB210_214.out _) | exact HI210.out)) (by (with_reducible repeat (first | apply Kd.R_alloc | apply Kd.R_drewN | apply Kd.R_drew)); exact HO_215001.out) (by decide)) hk (fun _ h => h.2)) (fun _ h => h.1)); have n1_ := zM (Kd.R_mono (Kd.R_keep (IsS67.apart (show IsS67 w _ g210 x211000_2 x211001_2 from by repeat (first | (with_reducible first | exact HI210.out | apply IsS67.alloc | apply IsS67.drewN | apply IsS67.drew | apply IsS67.set_0 | apply IsS67.set_1 | refine IsS67.far ?_ NB210_207.out _ | refine IsS67.far ?_ NB210_214.out _) | exact HI210.out)) (by (with_reducible repeat (first | apply Kd.R_alloc | apply Kd.R_drewN | apply Kd.R_drew)); exact HO_215005.out) (by decide)) hk (fun _ h => h.2)) (fun _ h => h.1)); have n2_ := zM (KeepBut.blk hk (g' := gb207) (o := .cells #[.bool false, .slice none 0 0, .int .i64 0, .int .u64 0, .int .u64 0, .slice none 0 0] 26 (0, 0)) (by (with_reducible repeat (first | refine zN ?_ _ | refine zD ?_ | refine zA ?_ _)); exact BK207.out) NB207_210.out (by simp)); have n3_ := zM (KeepBut.blk hk (g' := gb214) (o := .cells #[.bool t211, u215001, .int .i64 x215002_3, .int .u64 x215003_3, .int .u64 x215004_3, u215005] 26 (0, 0)) (by (with_reducible repeat (first | refine zN ?_ _ | refine zD ?_ | refine zA ?_ _)); exact BK214.out) NB214_210.out (by simp)); have n4_ := zM (hb); have n5_ := zM (hi); clear HO_215001; clear HO_215005; clear BK207; clear BK214; clear HB; clear HI210; have HO_215001 := n0_; have HO_215005 := n1_; have BK207 := n2_; have BK214 := n3_; have HB := n4_; have HI210 := n5_; clear n0_ n1_ n2_ n3_ n4_ n5_; (try clear hb); (try clear hb2); (try clear hk); (try clear hi); have hnb54 := NB214_207.out; have hnc54 := NB207_214.out; have hnb55 := NB214_210.out; have hnc55 := NB210_214.out; have hcz56_0 : w53.cell? ⟨gb214, 0, none⟩ = some (.bool t211) := (zC BK214.out 0).trans rfl; have hcz56_1 : w53.cell? ⟨gb214, 1, none⟩ = some (u215001) := (zC BK214.out 1).trans rfl; have hcz56_2 : w53.cell? ⟨gb214, 2, none⟩ = some (.int .i64 x215002_3) := (zC BK214.out 2).trans rfl; have hcz56_3 : w53.cell? ⟨gb214, 3, none⟩ = some (.int .u64 x215003_3) := (zC BK214.out 3).trans rfl; have hcz56_4 : w53.cell? ⟨gb214, 4, none⟩ = some (.int .u64 x215004_3) := (zC BK214.out 4).trans rfl; have hcz56_5 : w53.cell? ⟨gb214, 5, none⟩ = some (u215005) := (zC BK214.out 5).trans rfl; have hfz56_0 := zF BK214.out 0; have hfz56_1 := zF BK214.out 1; have hfz56_2 := zF BK214.out 2; have hfz56_3 := zF BK214.out 3; have hfz56_4 := zF BK214.out 4; have hfz56_5 := zF BK214.out 5; obtain ⟨Ao57, co57, eo57⟩ := Kd.R_slice HO_215001.out; subst eo57; obtain ⟨Ao58, co58, eo58⟩ := Kd.R_slice HO_215005.out; subst eo58) | (go_at_call 11; (with_reducible refine (record_May.calls k2 t211 _ _ x215001_3 x215002_3 x215003_3 x215004_3 _ _ x215005_2 true _ ?side1 ?side2 ?side3 ?side4 A51.out).mono ?_); (case side1 => repeat (first | exact (Kd.R_reads' HO_215001.out).2.2 | (with_reducible refine Kd.C_alloc ?_ _) | (with_reducible refine Kd.C_drewN ?_ _) | (with_reducible refine Kd.C_drew ?_))); (case side2 => exact (Kd.R_reads' HO_215001.out).2.1); (case side3 => repeat (first | exact (Kd.R_reads' HO_215005.out).2.2 | (with_reducible refine Kd.C_alloc ?_ _) | (with_reducible refine Kd.C_drewN ?_ _) | (with_reducible refine Kd.C_drew ?_))); (case side4 => exact (Kd.R_reads' HO_215005.out).2.1); rintro e w59 ⟨rfl, hb⟩; have n0_ := zM (Kd.R_below (by (with_reducible repeat (first | apply Kd.R_alloc | apply Kd.R_drewN | apply Kd.R_drew)); exact HO_215001.out) hb); have n1_ := zM (Kd.R_below (by (with_reducible repeat (first | apply Kd.R_alloc | apply Kd.R_drewN | apply Kd.R_drew)); exact HO_215005.out) hb); have n2_ := zM (zB (g := gb207) (o := .cells #[.bool false, .slice none 0 0, .int .i64 0, .int .u64 0, .int .u64 0, .slice none 0 0] 26 (0, 0)) (by (with_reducible repeat (first | refine zN ?_ _ | refine zD ?_ | refine zA ?_ _)); exact BK207.out) hb); have n3_ := zM (zB (g := gb214) (o := .cells #[.bool t211, .slice Ao57 x215001_3.length co57, .int .i64 x215002_3, .int .u64 x215003_3, .int .u64 x215004_3, .slice Ao58 x215005_2.length co58] 26 (0, 0)) (by (with_reducible repeat (first | refine zN ?_ _ | refine zD ?_ | refine zA ?_ _)); exact BK214.out) hb); have n4_ := zM (IsS67.below (by repeat (first | (with_reducible first | exact HI210.out | apply IsS67.alloc | apply IsS67.drewN | apply IsS67.drew | apply IsS67.set_0 | apply IsS67.set_1 | refine IsS67.far ?_ NB210_207.out _ | refine IsS67.far ?_ NB210_214.out _) | exact HI210.out)) hb); have n5_ := zM (below_step (by repeat (first | (with_reducible first | exact HB.out | apply zL | apply zP | apply zW | refine zS ?_ (IsS67.ge HI210.out) | refine zS ?_ GE207.out | refine zS ?_ GE214.out) | exact HB.out)) hb); clear HO_215001; clear HO_215005; clear BK207; clear BK214; clear HI210; clear HB; have HO_215001 := n0_; have HO_215005 := n1_; have BK207 := n2_; have BK214 := n3_; have HI210 := n4_; have HB := n5_; clear n0_ n1_ n2_ n3_ n4_ n5_; (try clear hb); (try clear hb2); (try clear hk); (try clear hi); have hcz60_0 : w59.cell? ⟨gb214, 0, none⟩ = some (.bool t211) := (zC BK214.out 0).trans rfl; have hcz60_1 : w59.cell? ⟨gb214, 1, none⟩ = some (.slice Ao57 x215001_3.length co57) := (zC BK214.out 1).trans rfl; have hcz60_2 : w59.cell? ⟨gb214, 2, none⟩ = some (.int .i64 x215002_3) := (zC BK214.out 2).trans rfl; have hcz60_3 : w59.cell? ⟨gb214, 3, none⟩ = some (.int .u64 x215003_3) := (zC BK214.out 3).trans rfl; have hcz60_4 : w59.cell? ⟨gb214, 4, none⟩ = some (.int .u64 x215004_3) := (zC BK214.out 4).trans rfl; have hcz60_5 : w59.cell? ⟨gb214, 5, none⟩ = some (.slice Ao58 x215005_2.length co58) := (zC BK214.out 5).trans rfl; have hfz60_0 := zF BK214.out 0; have hfz60_1 := zF BK214.out 1; have hfz60_2 := zF BK214.out 2; have hfz60_3 := zF BK214.out 3; have hfz60_4 := zF BK214.out 4; have hfz60_5 := zF BK214.out 5; have hnb61 := NB207_210.out; have hnc61 := NB210_207.out; have hcz62_0 : w59.cell? ⟨gb207, 0, none⟩ = some (.bool false) := (zC BK207.out 0).trans rfl; have hcz62_1 : w59.cell? ⟨gb207, 1, none⟩ = some (.slice none 0 0) := (zC BK207.out 1).trans rfl; have hcz62_2 : w59.cell? ⟨gb207, 2, none⟩ = some (.int .i64 0) := (zC BK207.out 2).trans rfl; have hcz62_3 : w59.cell? ⟨gb207, 3, none⟩ = some (.int .u64 0) := (zC BK207.out 3).trans rfl; have hcz62_4 : w59.cell? ⟨gb207, 4, none⟩ = some (.int .u64 0) := (zC BK207.out 4).trans rfl; have hcz62_5 : w59.cell? ⟨gb207, 5, none⟩ = some (.slice none 0 0) := (zC BK207.out 5).trans rfl; have hfz62_0 := zF BK207.out 0; have hfz62_1 := zF BK207.out 1; have hfz62_2 := zF BK207.out 2; have hfz62_3 := zF BK207.out 3; have hfz62_4 := zF BK207.out 4; have hfz62_5 := zF BK207.out 5))
         refine bodyPost_ret (results_ct rfl _ _ gb207 26 #[.bool t211, .slice Ao57 x215001_3.length co57, .int .i64 x215002_3, .int .u64 x215003_3, .int .u64 x215004_3, .slice Ao58 x215005_2.length co58] (0, 0) _ rfl (by (with_reducible repeat (first | refine zN ?_ _ | refine zD ?_ | refine zA ?_ _)); refine blk_put (cs := #[.bool t211, .slice Ao57 x215001_3.length co57, .int .i64 x215002_3, .int .u64 x215003_3, .int .u64 x215004_3, .slice none 0 0]) ?_ 5 _ rfl; (with_reducible repeat (first | refine zN ?_ _ | refine zD ?_ | refine zA ?_ _)); refine blk_put (cs := #[.bool t211, .slice Ao57 x215001_3.length co57, .int .i64 x215002_3, .int .u64 x215003_3, .int .u64 0, .slice none 0 0]) ?_ 4 _ rfl; (with_reducible repeat (first | refine zN ?_ _ | refine zD ?_ | refine zA ?_ _)); refine blk_put (cs := #[.bool t211, .slice Ao57 x215001_3.length co57, .int .i64 x215002_3, .int .u64 0, .int .u64 0, .slice none 0 0]) ?_ 3 _ rfl; (with_reducible repeat (first | refine zN ?_ _ | refine zD ?_ | refine zA ?_ _)); refine blk_put (cs := #[.bool t211, .slice Ao57 x215001_3.length co57, .int .i64 0, .int .u64 0, .int .u64 0, .slice none 0 0]) ?_ 2 _ rfl; (with_reducible repeat (first | refine zN ?_ _ | refine zD ?_ | refine zA ?_ _)); refine blk_put (cs := #[.bool t211, .slice none 0 0, .int .i64 0, .int .u64 0, .int .u64 0, .slice none 0 0]) ?_ 1 _ rfl; (with_reducible repeat (first | refine zN ?_ _ | refine zD ?_ | refine zA ?_ _)); refine blk_put (cs := #[.bool false, .slice none 0 0, .int .i64 0, .int .u64 0, .int .u64 0, .slice none 0 0]) ?_ 0 _ rfl; (with_reducible repeat (first | refine zN ?_ _ | refine zD ?_ | refine zA ?_ _)); exact BK207.out) Tryd.underlying26 rfl (by kernel_rfl)) rfl ?_
         exact ⟨_, _, by first | rfl | (simp [errW_none, errW_some] <;> rfl) | (simp [*, errW_none, errW_some] <;> rfl), by (with_reducible repeat (first | apply Kd.R_alloc | apply Kd.R_drewN | apply Kd.R_drew)); exact Kd.R_mono (Kd.R_far (p := ⟨gb207, 5, none⟩) (Kd.R_far (p := ⟨gb207, 4, none⟩) (Kd.R_far (p := ⟨gb207, 3, none⟩) (Kd.R_far (p := ⟨gb207, 2, none⟩) (Kd.R_far (p := ⟨gb207, 1, none⟩) (Kd.R_far (p := ⟨gb207, 0, none⟩) (Kd.R_types HO_215001.out BK207.out (by decide)) (fun _ hk => hk.2) (.bool t211)) (fun _ hk => hk.2) (.slice Ao57 x215001_3.length co57)) (fun _ hk => hk.2) (.int .i64 x215002_3)) (fun _ hk => hk.2) (.int .u64 x215003_3)) (fun _ hk => hk.2) (.int .u64 x215004_3)) (fun _ hk => hk.2) (.slice Ao58 x215005_2.length co58)) (fun _ hk => trivial), by (with_reducible repeat (first | apply Kd.R_alloc | apply Kd.R_drewN | apply Kd.R_drew)); exact Kd.R_mono (Kd.R_far (p := ⟨gb207, 5, none⟩) (Kd.R_far (p := ⟨gb207, 4, none⟩) (Kd.R_far (p := ⟨gb207, 3, none⟩) (Kd.R_far (p := ⟨gb207, 2, none⟩) (Kd.R_far (p := ⟨gb207, 1, none⟩) (Kd.R_far (p := ⟨gb207, 0, none⟩) (Kd.R_types HO_215005.out BK207.out (by decide)) (fun _ hk => hk.2) (.bool t211)) (fun _ hk => hk.2) (.slice Ao57 x215001_3.length co57)) (fun _ hk => hk.2) (.int .i64 x215002_3)) (fun _ hk => hk.2) (.int .u64 x215003_3)) (fun _ hk => hk.2) (.int .u64 x215004_3)) (fun _ hk => hk.2) (.slice Ao58 x215005_2.length co58)) (fun _ hk => trivial), by repeat (first | (with_reducible first | exact HB.out | apply zL | apply zP | apply zW | refine zS ?_ (IsS67.ge HI210.out) | refine zS ?_ GE207.out | refine zS ?_ GE214.out) | exact HB.out)⟩
        ·replace c52 := Bool.eq_false_iff.mpr c52
         subst c52
         have H1 : (some (false, ([] : List Int), 0, 0, 0, ([] : List (S47)), 3)) = some (r1, r2, r3, r4, r5, r6, r7) := by rw [if_neg (show ¬ (false = true) by decide)] at H; exact H
         clear H
         have H := H1
         clear H1
         simp only [Option.some.injEq, Prod.mk.injEq] at H
         obtain ⟨rfl, rfl, rfl, rfl, rfl, rfl, rfl⟩ := H
         go_wp2_with (first | ((with_reducible refine gate_callee (f := 28) rfl ?_); refine goesL_ (some 54) rfl rfl Tryd.func28 (by kernel_rfl) rfl #[.pointer (some ⟨g210, 0, none⟩)] rfl (by (try simp only [zY, List.map_cons, List.map_nil]); first | done | rfl | (simp only [zV, zX]; rfl)) ?_; (with_reducible refine (code_Reader_End.calls g210 x211000_2 x211001_2 t247 t248 t249 w _ ?side1 ?side2 A44.out).mono ?_); (case side1 => repeat (first | (with_reducible first | exact HI210.out | apply IsS67.alloc | apply IsS67.drewN | apply IsS67.drew | apply IsS67.set_0 | apply IsS67.set_1 | refine IsS67.far ?_ NB210_207.out _ | refine IsS67.far ?_ NB210_214.out _) | exact HI210.out)); (case side2 => repeat (first | (with_reducible first | exact HB.out | apply zL | apply zP | apply zW | refine zS ?_ (IsS67.ge HI210.out) | refine zS ?_ GE207.out | refine zS ?_ GE214.out) | exact HB.out)); rintro e w63 ⟨rfl, hi, hb, hk⟩; refine ⟨_, rfl, ?_⟩; have n0_ := zM (Kd.R_mono (Kd.R_keep (IsS67.apart (show IsS67 w _ g210 x211000_2 x211001_2 from by repeat (first | (with_reducible first | exact HI210.out | apply IsS67.alloc | apply IsS67.drewN | apply IsS67.drew | apply IsS67.set_0 | apply IsS67.set_1 | refine IsS67.far ?_ NB210_207.out _ | refine IsS67.far ?_ NB210_214.out _) | exact HI210.out)) (by (with_reducible repeat (first | apply Kd.R_alloc | apply Kd.R_drewN | apply Kd.R_drew)); exact HO_215001.out) (by decide)) hk (fun _ h => h.2)) (fun _ h => h.1)); have n1_ := zM (Kd.R_mono (Kd.R_keep (IsS67.apart (show IsS67 w _ g210 x211000_2 x211001_2 from by repeat (first | (with_reducible first | exact HI210.out | apply IsS67.alloc | apply IsS67.drewN | apply IsS67.drew | apply IsS67.set_0 | apply IsS67.set_1 | refine IsS67.far ?_ NB210_207.out _ | refine IsS67.far ?_ NB210_214.out _) | exact HI210.out)) (by (with_reducible repeat (first | apply Kd.R_alloc | apply Kd.R_drewN | apply Kd.R_drew)); exact HO_215005.out) (by decide)) hk (fun _ h => h.2)) (fun _ h => h.1)); have n2_ := zM (KeepBut.blk hk (g' := gb207) (o := .cells #[.bool false, .slice none 0 0, .int .i64 0, .int .u64 0, .int .u64 0, .slice none 0 0] 26 (0, 0)) (by (with_reducible repeat (first | refine zN ?_ _ | refine zD ?_ | refine zA ?_ _)); exact BK207.out) NB207_210.out (by simp)); have n3_ := zM (KeepBut.blk hk (g' := gb214) (o := .cells #[.bool t211, u215001, .int .i64 x215002_3, .int .u64 x215003_3, .int .u64 x215004_3, u215005] 26 (0, 0)) (by (with_reducible repeat (first | refine zN ?_ _ | refine zD ?_ | refine zA ?_ _)); exact BK214.out) NB214_210.out (by simp)); have n4_ := zM (hb); have n5_ := zM (hi); clear HO_215001; clear HO_215005; clear BK207; clear BK214; clear HB; clear HI210; have HO_215001 := n0_; have HO_215005 := n1_; have BK207 := n2_; have BK214 := n3_; have HB := n4_; have HI210 := n5_; clear n0_ n1_ n2_ n3_ n4_ n5_; (try clear hb); (try clear hb2); (try clear hk); (try clear hi); have hnb64 := NB214_207.out; have hnc64 := NB207_214.out; have hnb65 := NB214_210.out; have hnc65 := NB210_214.out; have hcz66_0 : w63.cell? ⟨gb214, 0, none⟩ = some (.bool t211) := (zC BK214.out 0).trans rfl; have hcz66_1 : w63.cell? ⟨gb214, 1, none⟩ = some (u215001) := (zC BK214.out 1).trans rfl; have hcz66_2 : w63.cell? ⟨gb214, 2, none⟩ = some (.int .i64 x215002_3) := (zC BK214.out 2).trans rfl; have hcz66_3 : w63.cell? ⟨gb214, 3, none⟩ = some (.int .u64 x215003_3) := (zC BK214.out 3).trans rfl; have hcz66_4 : w63.cell? ⟨gb214, 4, none⟩ = some (.int .u64 x215004_3) := (zC BK214.out 4).trans rfl; have hcz66_5 : w63.cell? ⟨gb214, 5, none⟩ = some (u215005) := (zC BK214.out 5).trans rfl; have hfz66_0 := zF BK214.out 0; have hfz66_1 := zF BK214.out 1; have hfz66_2 := zF BK214.out 2; have hfz66_3 := zF BK214.out 3; have hfz66_4 := zF BK214.out 4; have hfz66_5 := zF BK214.out 5; obtain ⟨Ao67, co67, eo67⟩ := Kd.R_slice HO_215001.out; subst eo67; obtain ⟨Ao68, co68, eo68⟩ := Kd.R_slice HO_215005.out; subst eo68) | (go_at_call 11; (with_reducible refine (record_May.calls k2 t211 _ _ x215001_3 x215002_3 x215003_3 x215004_3 _ _ x215005_2 false _ ?side1 ?side2 ?side3 ?side4 A51.out).mono ?_); (case side1 => repeat (first | exact (Kd.R_reads' HO_215001.out).2.2 | (with_reducible refine Kd.C_alloc ?_ _) | (with_reducible refine Kd.C_drewN ?_ _) | (with_reducible refine Kd.C_drew ?_))); (case side2 => exact (Kd.R_reads' HO_215001.out).2.1); (case side3 => repeat (first | exact (Kd.R_reads' HO_215005.out).2.2 | (with_reducible refine Kd.C_alloc ?_ _) | (with_reducible refine Kd.C_drewN ?_ _) | (with_reducible refine Kd.C_drew ?_))); (case side4 => exact (Kd.R_reads' HO_215005.out).2.1); rintro e w69 ⟨rfl, hb⟩; have n0_ := zM (Kd.R_below (by (with_reducible repeat (first | apply Kd.R_alloc | apply Kd.R_drewN | apply Kd.R_drew)); exact HO_215001.out) hb); have n1_ := zM (Kd.R_below (by (with_reducible repeat (first | apply Kd.R_alloc | apply Kd.R_drewN | apply Kd.R_drew)); exact HO_215005.out) hb); have n2_ := zM (zB (g := gb207) (o := .cells #[.bool false, .slice none 0 0, .int .i64 0, .int .u64 0, .int .u64 0, .slice none 0 0] 26 (0, 0)) (by (with_reducible repeat (first | refine zN ?_ _ | refine zD ?_ | refine zA ?_ _)); exact BK207.out) hb); have n3_ := zM (zB (g := gb214) (o := .cells #[.bool t211, .slice Ao67 x215001_3.length co67, .int .i64 x215002_3, .int .u64 x215003_3, .int .u64 x215004_3, .slice Ao68 x215005_2.length co68] 26 (0, 0)) (by (with_reducible repeat (first | refine zN ?_ _ | refine zD ?_ | refine zA ?_ _)); exact BK214.out) hb); have n4_ := zM (IsS67.below (by repeat (first | (with_reducible first | exact HI210.out | apply IsS67.alloc | apply IsS67.drewN | apply IsS67.drew | apply IsS67.set_0 | apply IsS67.set_1 | refine IsS67.far ?_ NB210_207.out _ | refine IsS67.far ?_ NB210_214.out _) | exact HI210.out)) hb); have n5_ := zM (below_step (by repeat (first | (with_reducible first | exact HB.out | apply zL | apply zP | apply zW | refine zS ?_ (IsS67.ge HI210.out) | refine zS ?_ GE207.out | refine zS ?_ GE214.out) | exact HB.out)) hb); clear HO_215001; clear HO_215005; clear BK207; clear BK214; clear HI210; clear HB; have HO_215001 := n0_; have HO_215005 := n1_; have BK207 := n2_; have BK214 := n3_; have HI210 := n4_; have HB := n5_; clear n0_ n1_ n2_ n3_ n4_ n5_; (try clear hb); (try clear hb2); (try clear hk); (try clear hi); have hnb70 := NB207_210.out; have hnc70 := NB210_207.out; have hcz71_0 : w69.cell? ⟨gb207, 0, none⟩ = some (.bool false) := (zC BK207.out 0).trans rfl; have hcz71_1 : w69.cell? ⟨gb207, 1, none⟩ = some (.slice none 0 0) := (zC BK207.out 1).trans rfl; have hcz71_2 : w69.cell? ⟨gb207, 2, none⟩ = some (.int .i64 0) := (zC BK207.out 2).trans rfl; have hcz71_3 : w69.cell? ⟨gb207, 3, none⟩ = some (.int .u64 0) := (zC BK207.out 3).trans rfl; have hcz71_4 : w69.cell? ⟨gb207, 4, none⟩ = some (.int .u64 0) := (zC BK207.out 4).trans rfl; have hcz71_5 : w69.cell? ⟨gb207, 5, none⟩ = some (.slice none 0 0) := (zC BK207.out 5).trans rfl; have hfz71_0 := zF BK207.out 0; have hfz71_1 := zF BK207.out 1; have hfz71_2 := zF BK207.out 2; have hfz71_3 := zF BK207.out 3; have hfz71_4 := zF BK207.out 4; have hfz71_5 := zF BK207.out 5))
         refine bodyPost_ret (results_ct rfl _ _ gb207 26 #[.bool false, .slice none 0 0, .int .i64 0, .int .u64 0, .int .u64 0, .slice none 0 0] (0, 0) _ rfl (by (with_reducible repeat (first | refine zN ?_ _ | refine zD ?_ | refine zA ?_ _)); refine blk_put (cs := #[.bool false, .slice none 0 0, .int .i64 0, .int .u64 0, .int .u64 0, .slice none 0 0]) ?_ 5 _ rfl; (with_reducible repeat (first | refine zN ?_ _ | refine zD ?_ | refine zA ?_ _)); refine blk_put (cs := #[.bool false, .slice none 0 0, .int .i64 0, .int .u64 0, .int .u64 0, .slice none 0 0]) ?_ 4 _ rfl; (with_reducible repeat (first | refine zN ?_ _ | refine zD ?_ | refine zA ?_ _)); refine blk_put (cs := #[.bool false, .slice none 0 0, .int .i64 0, .int .u64 0, .int .u64 0, .slice none 0 0]) ?_ 3 _ rfl; (with_reducible repeat (first | refine zN ?_ _ | refine zD ?_ | refine zA ?_ _)); refine blk_put (cs := #[.bool false, .slice none 0 0, .int .i64 0, .int .u64 0, .int .u64 0, .slice none 0 0]) ?_ 2 _ rfl; (with_reducible repeat (first | refine zN ?_ _ | refine zD ?_ | refine zA ?_ _)); refine blk_put (cs := #[.bool false, .slice none 0 0, .int .i64 0, .int .u64 0, .int .u64 0, .slice none 0 0]) ?_ 1 _ rfl; (with_reducible repeat (first | refine zN ?_ _ | refine zD ?_ | refine zA ?_ _)); refine blk_put (cs := #[.bool false, .slice none 0 0, .int .i64 0, .int .u64 0, .int .u64 0, .slice none 0 0]) ?_ 0 _ rfl; (with_reducible repeat (first | refine zN ?_ _ | refine zD ?_ | refine zA ?_ _)); exact BK207.out) Tryd.underlying26 rfl (by kernel_rfl)) rfl ?_
         exact ⟨_, _, by first | rfl | (simp [errW_none, errW_some] <;> rfl) | (simp [*, errW_none, errW_some] <;> rfl), by first | exact Kd.R_nil _ _ _ _ _ | exact Kd.N_nil _ _ _ _ _ | exact Kd.V_nil _ _ _ _ _ | exact Kd.Q_nil _ _ _ _ _ | exact Kd.S_nil _ _ _ _ _, by first | exact Kd.R_nil _ _ _ _ _ | exact Kd.N_nil _ _ _ _ _ | exact Kd.V_nil _ _ _ _ _ | exact Kd.Q_nil _ _ _ _ _ | exact Kd.S_nil _ _ _ _ _, by repeat (first | (with_reducible first | exact HB.out | apply zL | apply zP | apply zW | refine zS ?_ (IsS67.ge HI210.out) | refine zS ?_ GE207.out | refine zS ?_ GE214.out) | exact HB.out)⟩
      ·rw [if_neg c45] at H
       have c45b0 : (t247 == 0) = false := beq_eq_false_iff_ne.mpr c45
       have c45b1 : (t247 != 0) = true := bne_iff_ne.mpr c45
       simp only [Option.some.injEq, Prod.mk.injEq] at H
       obtain ⟨rfl, rfl, rfl, rfl, rfl, rfl, rfl⟩ := H
       go_wp2_with (first | ((with_reducible refine gate_callee (f := 28) rfl ?_); refine goesL_ (some 54) rfl rfl Tryd.func28 (by kernel_rfl) rfl #[.pointer (some ⟨g210, 0, none⟩)] rfl (by (try simp only [zY, List.map_cons, List.map_nil]); first | done | rfl | (simp only [zV, zX]; rfl)) ?_; (with_reducible refine (code_Reader_End.calls g210 x211000_2 x211001_2 t247 t248 t249 w _ ?side1 ?side2 A44.out).mono ?_); (case side1 => repeat (first | (with_reducible first | exact HI210.out | apply IsS67.alloc | apply IsS67.drewN | apply IsS67.drew | apply IsS67.set_0 | apply IsS67.set_1 | refine IsS67.far ?_ NB210_207.out _ | refine IsS67.far ?_ NB210_214.out _) | exact HI210.out)); (case side2 => repeat (first | (with_reducible first | exact HB.out | apply zL | apply zP | apply zW | refine zS ?_ (IsS67.ge HI210.out) | refine zS ?_ GE207.out | refine zS ?_ GE214.out) | exact HB.out)); rintro e w72 ⟨rfl, hi, hb, hk⟩; refine ⟨_, rfl, ?_⟩; have n0_ := zM (Kd.R_mono (Kd.R_keep (IsS67.apart (show IsS67 w _ g210 x211000_2 x211001_2 from by repeat (first | (with_reducible first | exact HI210.out | apply IsS67.alloc | apply IsS67.drewN | apply IsS67.drew | apply IsS67.set_0 | apply IsS67.set_1 | refine IsS67.far ?_ NB210_207.out _ | refine IsS67.far ?_ NB210_214.out _) | exact HI210.out)) (by (with_reducible repeat (first | apply Kd.R_alloc | apply Kd.R_drewN | apply Kd.R_drew)); exact HO_215001.out) (by decide)) hk (fun _ h => h.2)) (fun _ h => h.1)); have n1_ := zM (Kd.R_mono (Kd.R_keep (IsS67.apart (show IsS67 w _ g210 x211000_2 x211001_2 from by repeat (first | (with_reducible first | exact HI210.out | apply IsS67.alloc | apply IsS67.drewN | apply IsS67.drew | apply IsS67.set_0 | apply IsS67.set_1 | refine IsS67.far ?_ NB210_207.out _ | refine IsS67.far ?_ NB210_214.out _) | exact HI210.out)) (by (with_reducible repeat (first | apply Kd.R_alloc | apply Kd.R_drewN | apply Kd.R_drew)); exact HO_215005.out) (by decide)) hk (fun _ h => h.2)) (fun _ h => h.1)); have n2_ := zM (KeepBut.blk hk (g' := gb207) (o := .cells #[.bool false, .slice none 0 0, .int .i64 0, .int .u64 0, .int .u64 0, .slice none 0 0] 26 (0, 0)) (by (with_reducible repeat (first | refine zN ?_ _ | refine zD ?_ | refine zA ?_ _)); exact BK207.out) NB207_210.out (by simp)); have n3_ := zM (KeepBut.blk hk (g' := gb214) (o := .cells #[.bool t211, u215001, .int .i64 x215002_3, .int .u64 x215003_3, .int .u64 x215004_3, u215005] 26 (0, 0)) (by (with_reducible repeat (first | refine zN ?_ _ | refine zD ?_ | refine zA ?_ _)); exact BK214.out) NB214_210.out (by simp)); have n4_ := zM (hb); have n5_ := zM (hi); clear HO_215001; clear HO_215005; clear BK207; clear BK214; clear HB; clear HI210; have HO_215001 := n0_; have HO_215005 := n1_; have BK207 := n2_; have BK214 := n3_; have HB := n4_; have HI210 := n5_; clear n0_ n1_ n2_ n3_ n4_ n5_; (try clear hb); (try clear hb2); (try clear hk); (try clear hi); have hnb73 := NB207_214.out; have hnc73 := NB214_207.out; have hnb74 := NB207_210.out; have hnc74 := NB210_207.out; have hcz75_0 : w72.cell? ⟨gb207, 0, none⟩ = some (.bool false) := (zC BK207.out 0).trans rfl; have hcz75_1 : w72.cell? ⟨gb207, 1, none⟩ = some (.slice none 0 0) := (zC BK207.out 1).trans rfl; have hcz75_2 : w72.cell? ⟨gb207, 2, none⟩ = some (.int .i64 0) := (zC BK207.out 2).trans rfl; have hcz75_3 : w72.cell? ⟨gb207, 3, none⟩ = some (.int .u64 0) := (zC BK207.out 3).trans rfl; have hcz75_4 : w72.cell? ⟨gb207, 4, none⟩ = some (.int .u64 0) := (zC BK207.out 4).trans rfl; have hcz75_5 : w72.cell? ⟨gb207, 5, none⟩ = some (.slice none 0 0) := (zC BK207.out 5).trans rfl; have hfz75_0 := zF BK207.out 0; have hfz75_1 := zF BK207.out 1; have hfz75_2 := zF BK207.out 2; have hfz75_3 := zF BK207.out 3; have hfz75_4 := zF BK207.out 4; have hfz75_5 := zF BK207.out 5))
       refine bodyPost_ret (results_ct rfl _ _ gb207 26 #[.bool false, .slice none 0 0, .int .i64 0, .int .u64 0, .int .u64 0, .slice none 0 0] (0, 0) _ rfl (by (with_reducible repeat (first | refine zN ?_ _ | refine zD ?_ | refine zA ?_ _)); refine blk_put (cs := #[.bool false, .slice none 0 0, .int .i64 0, .int .u64 0, .int .u64 0, .slice none 0 0]) ?_ 5 _ rfl; (with_reducible repeat (first | refine zN ?_ _ | refine zD ?_ | refine zA ?_ _)); refine blk_put (cs := #[.bool false, .slice none 0 0, .int .i64 0, .int .u64 0, .int .u64 0, .slice none 0 0]) ?_ 4 _ rfl; (with_reducible repeat (first | refine zN ?_ _ | refine zD ?_ | refine zA ?_ _)); refine blk_put (cs := #[.bool false, .slice none 0 0, .int .i64 0, .int .u64 0, .int .u64 0, .slice none 0 0]) ?_ 3 _ rfl; (with_reducible repeat (first | refine zN ?_ _ | refine zD ?_ | refine zA ?_ _)); refine blk_put (cs := #[.bool false, .slice none 0 0, .int .i64 0, .int .u64 0, .int .u64 0, .slice none 0 0]) ?_ 2 _ rfl; (with_reducible repeat (first | refine zN ?_ _ | refine zD ?_ | refine zA ?_ _)); refine blk_put (cs := #[.bool false, .slice none 0 0, .int .i64 0, .int .u64 0, .int .u64 0, .slice none 0 0]) ?_ 1 _ rfl; (with_reducible repeat (first | refine zN ?_ _ | refine zD ?_ | refine zA ?_ _)); refine blk_put (cs := #[.bool false, .slice none 0 0, .int .i64 0, .int .u64 0, .int .u64 0, .slice none 0 0]) ?_ 0 _ rfl; (with_reducible repeat (first | refine zN ?_ _ | refine zD ?_ | refine zA ?_ _)); exact BK207.out) Tryd.underlying26 rfl (by kernel_rfl)) rfl ?_
       exact ⟨_, _, by first | rfl | (simp [errW_none, errW_some] <;> rfl) | (simp [*, errW_none, errW_some] <;> rfl), by first | exact Kd.R_nil _ _ _ _ _ | exact Kd.N_nil _ _ _ _ _ | exact Kd.V_nil _ _ _ _ _ | exact Kd.Q_nil _ _ _ _ _ | exact Kd.S_nil _ _ _ _ _, by first | exact Kd.R_nil _ _ _ _ _ | exact Kd.N_nil _ _ _ _ _ | exact Kd.V_nil _ _ _ _ _ | exact Kd.Q_nil _ _ _ _ _ | exact Kd.S_nil _ _ _ _ _, by repeat (first | (with_reducible first | exact HB.out | apply zL | apply zP | apply zW | refine zS ?_ (IsS67.ge HI210.out) | refine zS ?_ GE207.out | refine zS ?_ GE214.out) | exact HB.out)⟩

/-! ### strings_TrimLeft: function 52 -/
def strings_TrimLeft.f (a0 a1 : ByteArray) : Option ByteArray := if a1.toList = ([0] : List UInt8) then some ⟨(Go.Lib.trimLeftB a0.data.toList 0).toArray⟩ else none
theorem strings_TrimLeft.calls (a0 a1 : ByteArray) (r : ByteArray) (w : World) (h : strings_TrimLeft.f a0 a1 = some r) :
  Calls Tryd.prog 52 #[.string a0, .string a1] w fun e w' => e = .returned (.string r) ∧ Drawn0 w w' := by
 unfold strings_TrimLeft.f at h
 by_cases c : a1.toList = ([0] : List UInt8)
 ·rw [if_pos c] at h
  obtain rfl := Option.some.inj h
  obtain rfl : a1 = ⟨#[0]⟩ := Go.Proofs.YtgghakjleihgaaaDoor.XB.toList_inj.mp (c.trans ((Go.Proofs.YtgghakjleihgaaaDoor.XB.toList_data (⟨#[0]⟩ : ByteArray)).trans rfl).symm)
  exact (Tryd.strings_TrimLeft_one a0 0 (by decide) w).mono fun e w' h => ⟨h.1, 0, h.2⟩
 ·rw [if_neg c] at h
  exact absurd h (by simp)

/-! ### order_Num: function 35 -/
def order_Num.f (a0 : Int) : Option (ByteArray) := (code_Big.f a0).bind fun t251 => ((strings_TrimLeft.f t251 (⟨#[0]⟩ : ByteArray)).bind fun t252 => ((some (([(wrap64 (16 + (t252.size : Int))) % 256] : List Int) : List Int)).bind fun y253 => (if (strOfNums y253).size + t252.size ≤ 9223372036854775807 then (some ((strOfNums y253) ++ t252)) else (none))))
set_option maxHeartbeats 8000000 in
set_option maxRecDepth 100000 in
theorem order_Num.calls (a0 : Int) (r : ByteArray) (w : World) (h : order_Num.f a0 = some r) :
  Calls Tryd.prog 35 #[.int .u64 a0] w fun e w' => e = .returned (.string r) ∧ Below w.heap.size w w' := by
 have HB := zM (Below.refl w.heap.size w)
 have H : ((code_Big.f a0).bind fun t251 => ((strings_TrimLeft.f t251 (⟨#[0]⟩ : ByteArray)).bind fun t252 => ((some (([(wrap64 (16 + (t252.size : Int))) % 256] : List Int) : List Int)).bind fun y253 => (if (strOfNums y253).size + t252.size ≤ 9223372036854775807 then (some ((strOfNums y253) ++ t252)) else (none))))) = some r := h
 clear h
 replace H := Option.bind_eq_some_iff.mp H
 obtain ⟨t251, A20, H⟩ := H
 replace H : ((strings_TrimLeft.f t251 (⟨#[0]⟩ : ByteArray)).bind fun t252 => ((some (([(wrap64 (16 + (t252.size : Int))) % 256] : List Int) : List Int)).bind fun y253 => (if (strOfNums y253).size + t252.size ≤ 9223372036854775807 then (some ((strOfNums y253) ++ t252)) else (none)))) = some r := H
 have A2 := zM A20
 clear A20
 replace H := Option.bind_eq_some_iff.mp H
 obtain ⟨t252, A30, H⟩ := H
 replace H : ((some (([(wrap64 (16 + (t252.size : Int))) % 256] : List Int) : List Int)).bind fun y253 => (if (strOfNums y253).size + t252.size ≤ 9223372036854775807 then (some ((strOfNums y253) ++ t252)) else (none))) = some r := H
 have A3 := zM A30
 clear A30
 obtain ⟨y253, hy253⟩ : ∃ y_ : List Int, y_ = (([(wrap64 (16 + (t252.size : Int))) % 256] : List Int)) := ⟨_, rfl⟩
 replace H : (if (strOfNums y253).size + t252.size ≤ 9223372036854775807 then (some ((strOfNums y253) ++ t252)) else (none)) = some r := by first | (rw [hy253]; with_reducible exact H) | (have H2_ := (Option.bind_some _ _).symm.trans H; rw [hy253]; with_reducible exact H2_) | (have H2_ := (Option.bind_some _ _).symm.trans H; with_reducible exact H2_) | with_reducible exact H | (rw [hy253]; exact H) | exact H
 have Ny253 := zM hy253
 clear hy253
 by_cases c4 : (strOfNums y253).size + t252.size ≤ 9223372036854775807
 ·rw [if_pos c4] at H
  have c4b0 := eq_true c4
  have c4b1 : decide ((strOfNums y253).size + t252.size ≤ 9223372036854775807) = true := decide_eq_true c4
  try have c4b2 : (9223372036854775807 < (strOfNums y253).size + t252.size) = False := eq_false (Nat.not_lt.2 c4)
  obtain rfl := Option.some.inj H
  go_enter Tryd.func35, Tryd.ntmps35
  go_wp2_with (first | ((with_reducible refine gate_callee (f := 42) rfl ?_); refine goesL_ (some 5) rfl rfl Tryd.func42 (by kernel_rfl) rfl #[.int .u64 a0] rfl (by (try simp only [zY, List.map_cons, List.map_nil]); first | done | rfl | (simp only [zV, zX]; rfl)) ?_; (with_reducible refine (code_Big.calls a0 t251 _ A2.out).mono ?_); rintro e w5 ⟨rfl, hb⟩; refine ⟨_, rfl, ?_⟩; have n0_ := zM (below_step (by repeat (first | (with_reducible first | exact HB.out | apply zL | apply zP | apply zW) | exact HB.out)) hb); clear HB; have HB := n0_; clear n0_; (try clear hb); (try clear hb2); (try clear hk); (try clear hi)) | ((with_reducible refine gate_callee (f := 52) rfl ?_); refine goesL_ (some 6) rfl rfl Tryd.func52 (by kernel_rfl) rfl #[.string t251, .string (⟨#[0]⟩ : ByteArray)] rfl (by (try simp only [zY, List.map_cons, List.map_nil]); first | done | rfl | (simp only [zV, zX]; rfl)) ?_; (with_reducible refine (strings_TrimLeft.calls t251 (⟨#[0]⟩ : ByteArray) t252 _ A3.out).mono ?_); rintro e w' ⟨rfl, ⟨nd, rfl⟩⟩; refine ⟨_, rfl, ?_⟩) | ((with_reducible refine gate_dst (N := 11) rfl ?_); refine Kd.R_lit (Kd.int .u8) _ 5 ?hg (N := 11) ?hd (xs := ([(wrap64 (16 + (t252.size : Int))) % 256] : List Int)) (inner := [.int .u8 ((wrap64 (16 + (t252.size : Int))) % 256)]) (ok := fun _ => True) (okp := fun _ => True) ?hr ?hp (fun _ hk => hk) trivial (Below.refl _ _) (Nat.le_refl _) (by simp) ?_; (case hd => rfl); (case hg => rfl); (case hr => first | (go_simp; done) | (go_simp; rfl)); (case hp => exact (Reps.one (show Kd.M (Kd.int .u8) _ _ _ ((wrap64 (16 + (t252.size : Int))) % 256) [.int .u8 ((wrap64 (16 + (t252.size : Int))) % 256)] from rfl) (Reps.none _ _))); intro v254 w6 ho7 hb hg_ hnew_; clear hg_ hnew_; (first | rw [← Ny253.out] at ho7 | (simp only [Int.reduceToNat] at ho7; rw [← Ny253.out] at ho7)); have n0_ := zM (Kd.R_lower ho7 (below_size (by repeat (first | (with_reducible first | exact HB.out | apply zL | apply zP | apply zW) | exact HB.out)))); have n1_ := zM (below_step (by repeat (first | (with_reducible first | exact HB.out | apply zL | apply zP | apply zW) | exact HB.out)) hb); clear HB; have HO255 := n0_; have HB := n1_; clear n0_ n1_; clear hb ho7; have hcv8 := own_string (P := Tryd.prog) Tryd.underlying58 Tryd.underlying5 Tryd.underlying9 (Kd.own_of_R HO255.out)))
  go_ret
  exact ⟨by first | rfl | (simp [errW_none, errW_some] <;> rfl) | (simp [*, errW_none, errW_some] <;> rfl), by repeat (first | (with_reducible first | exact HB.out | apply zL | apply zP | apply zW) | exact HB.out)⟩
 ·rw [if_neg c4] at H
  exact absurd H (by simp)

end Go.Proofs.YtgghakjleihgaaaDoor.PRecordKeys
