-- Written by a program of this session's (the kit's print, with additions of my own). Not trusted: Lean checks it.
import Derived.Test.YtgghakjleihgaaaDoorPRecordKeysx0
import Derived.Test.YtgghakjleihgaaaDoorPRecordKeysx2
import Derived.Test.YtgghakjleihgaaaDoorXB
namespace Go.Proofs.YtgghakjleihgaaaDoor.PRecordKeys
open Go.RowKit Go.Proofs.YtgghakjleihgaaaDoorW.PrintWords Go.Proofs.YtgghakjleihgaaaDoorW.PrintLast Go.Proofs.YtgghakjleihgaaaDoorW.PrintMore
open Go.Proofs.YtgghakjleihgaaaDoorW.PrintWords renaming blk_drewN → zN, blk_drew → zD, blk_alloc → zA, blk_cell → zC, blk_frozen → zF, below_set → zS, below_alloc → zL, below_drew1 → zW, pw_below_drewN → zP, blk_below → zB, keep_drewN → zK
open Go.Proofs.YtgghakjleihgaaaDoorW.PrintWords.Aside0 renaming mk → zM
open List renaming setIfInBounds_toArray → zT, set_cons_zero → zZ, set_cons_succ → zU, length_drop → zV, length_take → zX, map_toArray → zY
attribute [local go_sem] max2_int min2_int max_two min_two max_three min_three max_four min_four   -- for this text's walks alone
set_option linter.unusedVariables false
set_option linter.unusedSimpArgs false
abbrev zb0 : Array Bool := #[false, false, false, false, false, false, false, false, false, false, false, false, false, false, false, false, false, false, false, false, false, false, false, false, false, false, false, false, false, false, false, false]
abbrev zb1 : Array Bool := #[true, false, false, false, false, false, false, false, false, false, false, false, false, false, false, false, false, false, false, false, false, false, false, false, false, false, false, false, false, false, false, false]
abbrev zb2 : Array Bool := #[true, true, false, false, false, false, false, false, false, false, false, false, false, false, false, false, false, false, false, false, false, false, false, false, false, false, false, false, false, false, false, false]
abbrev zb3 : Array Bool := #[true, true, true, false, false, false, false, false, false, false, false, false, false, false, false, false, false, false, false, false, false, false, false, false, false, false, false, false, false, false, false, false]
abbrev zb4 : Array Bool := #[true, true, true, true, false, false, false, false, false, false, false, false, false, false, false, false, false, false, false, false, false, false, false, false, false, false, false, false, false, false, false, false]
abbrev zb5 : Array Bool := #[true, true, true, true, true, false, false, false, false, false, false, false, false, false, false, false, false, false, false, false, false, false, false, false, false, false, false, false, false, false, false, false]
abbrev zb6 : Array Bool := #[true, true, true, true, true, true, false, false, false, false, false, false, false, false, false, false, false, false, false, false, false, false, false, false, false, false, false, false, false, false, false, false]
abbrev zb7 : Array Bool := #[true, true, true, true, true, true, true, false, false, false, false, false, false, false, false, false, false, false, false, false, false, false, false, false, false, false, false, false, false, false, false, false]
abbrev zb8 : Array Bool := #[true, true, true, true, true, true, true, true, false, false, false, false, false, false, false, false, false, false, false, false, false, false, false, false, false, false, false, false, false, false, false, false]
abbrev zb9 : Array Bool := #[true, true, true, true, true, true, true, true, true, false, false, false, false, false, false, false, false, false, false, false, false, false, false, false, false, false, false, false, false, false, false, false]
abbrev zb10 : Array Bool := #[true, true, true, true, true, true, true, true, true, false, true, false, false, false, false, false, false, false, false, false, false, false, false, false, false, false, false, false, false, false, false, false]
abbrev zb11 : Array Bool := #[true, true, true, true, true, true, true, true, true, false, true, false, true, false, false, false, false, false, false, false, false, false, false, false, false, false, false, false, false, false, false, false]
abbrev zb12 : Array Bool := #[true, true, true, true, true, true, true, true, true, false, true, false, true, true, false, false, false, false, false, false, false, false, false, false, false, false, false, false, false, false, false, false]
abbrev zb13 : Array Bool := #[true, true, true, true, true, true, true, true, true, true, true, false, true, true, false, false, false, false, false, false, false, false, false, false, false, false, false, false, false, false, false, false]
abbrev zb14 : Array Bool := #[true, true, true, true, true, true, true, true, true, true, true, true, true, true, false, false, false, false, false, false, false, false, false, false, false, false, false, false, false, false, false, false]
abbrev zb15 : Array Bool := #[true, true, true, true, true, true, true, true, true, true, true, true, true, true, true, false, false, false, false, false, false, false, false, false, false, false, false, false, false, false, false, false]
abbrev zb16 : Array Bool := #[true, true, true, true, true, true, true, true, true, true, true, true, true, true, true, true, false, false, false, false, false, false, false, false, false, false, false, false, false, false, false, false]
abbrev zb17 : Array Bool := #[true, true, true, true, true, true, true, true, true, true, true, true, true, true, true, true, true, false, false, false, false, false, false, false, false, false, false, false, false, false, false, false]
abbrev zb18 : Array Bool := #[true, true, true, true, true, true, true, true, true, true, true, true, true, true, true, true, true, true, false, false, false, false, false, false, false, false, false, false, false, false, false, false]
abbrev zb19 : Array Bool := #[true, true, true, true, true, true, true, true, true, true, true, true, true, true, true, true, true, true, true, false, false, false, false, false, false, false, false, false, false, false, false, false]
abbrev zb20 : Array Bool := #[true, true, true, true, true, true, true, true, true, true, true, true, true, true, true, true, true, true, true, true, false, false, false, false, false, false, false, false, false, false, false, false]
abbrev zb21 : Array Bool := #[true, true, true, true, true, true, true, true, true, true, true, true, true, true, true, true, true, true, true, true, true, false, false, false, false, false, false, false, false, false, false, false]
abbrev zb22 : Array Bool := #[true, true, true, true, true, true, true, true, true, true, true, true, true, true, true, true, true, true, true, true, true, true, false, false, false, false, false, false, false, false, false, false]
abbrev zb23 : Array Bool := #[true, true, true, true, true, true, true, true, true, true, true, true, true, true, true, true, true, true, true, true, true, true, true, false, false, false, false, false, false, false, false, false]
abbrev zb24 : Array Bool := #[true, true, true, true, true, true, true, true, true, true, true, true, true, true, true, true, true, true, true, true, true, true, true, true, false, false, false, false, false, false, false, false]
abbrev zb25 : Array Bool := #[true, true, true, true, true, true, true, true, true, true, true, true, true, true, true, true, true, true, true, true, true, true, true, true, true, false, false, false, false, false, false, false]
abbrev zb26 : Array Bool := #[true, true, true, true, true, true, true, true, true, true, true, true, true, true, true, true, true, true, true, true, true, true, true, true, true, true, false, false, false, false, false, false]
abbrev zb27 : Array Bool := #[true, true, true, true, true, true, true, true, true, true, true, true, true, true, true, true, true, true, true, true, true, true, true, true, true, true, true, false, false, false, false, false]
abbrev zb28 : Array Bool := #[true, true, true, true, true, true, true, true, true, true, true, true, true, true, true, true, true, true, true, true, true, true, true, true, true, true, true, true, false, false, false, false]
abbrev zb29 : Array Bool := #[true, true, true, true, true, true, true, true, true, true, true, true, true, true, true, true, true, true, true, true, true, true, true, true, true, true, true, true, true, false, false, false]
abbrev zb30 : Array Bool := #[true, true, true, true, true, true, true, true, true, true, true, true, true, true, true, true, true, true, true, true, true, true, true, true, true, true, true, true, true, true, false, false]
abbrev zb31 : Array Bool := #[true, true, true, true, true, true, true, true, true, true, true, true, true, true, true, true, true, true, true, true, true, true, true, true, true, true, true, true, true, true, true, false]
abbrev zb32 : Array Bool := #[true, true, true, true, true, true, true, true, true, true, true, true, true, true, true, true, true, true, true, true, true, true, true, true, true, true, true, true, true, true, true, true]
abbrev zb33 : Array Bool := #[true, true, true, true, true, true, true, true, true, true, false, false, false, false, false, false, false, false, false, false, false, false, false, false, false, false, false, false, false, false, false, false]
abbrev zb34 : Array Bool := #[true, true, true, true, true, true, true, true, true, true, true, false, false, false, false, false, false, false, false, false, false, false, false, false, false, false, false, false, false, false, false, false]
abbrev zb35 : Array Bool := #[true, true, true, true, true, true, true, true, true, true, true, true, false, false, false, false, false, false, false, false, false, false, false, false, false, false, false, false, false, false, false, false]
abbrev zb36 : Array Bool := #[true, true, true, true, true, true, true, true, true, true, true, true, true, false, false, false, false, false, false, false, false, false, false, false, false, false, false, false, false, false, false, false]

/-! ### record_May: function 11 -/
mutual
def record_May.j0 : Nat → Bool → Bool → List Int → Int → Int → Int → List (S47) → Option (Bool)
 | 0, _, _, _, _, _, _, _ => none
 | k + 1, x22, x103000, x103001, x103002, x103003, x103004, x103005 => if x22 = true then (some false) else (record_May.l0 k x103001 (x103001.length : Int) 0 x103000 x103001 x103002 x103003 x103004 x103005)
def record_May.l0 : Nat → List Int → Int → Int → Bool → List Int → Int → Int → Int → List (S47) → Option (Bool)
 | 0, _, _, _, _, _, _, _, _, _ => none
 | k + 1, x24, x25, x26, x103000, x103001, x103002, x103003, x103004, x103005 => if x26 < x25 then (if 0 ≤ x26 then (if x26 < (x24.length : Int) then ((record_number.f (rd x24 x26)).bind fun t105 => (if t105 = true then (if x26 > 0 then (if 0 ≤ (wrap64 (x26 - 1)) then (if (wrap64 (x26 - 1)) < (x103001.length : Int) then (if (rd x24 x26) ≤ (rd x103001 (wrap64 (x26 - 1))) then (some false) else (record_May.l0 k x24 x25 (wrap64 (x26 + 1)) x103000 x103001 x103002 x103003 x103004 x103005)) else (none)) else (none)) else (record_May.l0 k x24 x25 (wrap64 (x26 + 1)) x103000 x103001 x103002 x103003 x103004 x103005)) else (some false))) else (none)) else (none)) else (record_May.l1 k x103005 (x103005.length : Int) 0 x103000 x103001 x103002 x103003 x103004 x103005)
def record_May.l1 : Nat → List (S47) → Int → Int → Bool → List Int → Int → Int → Int → List (S47) → Option (Bool)
 | 0, _, _, _, _, _, _, _, _, _ => none
 | k + 1, x50, x51, x52, x103000, x103001, x103002, x103003, x103004, x103005 => if x52 < x51 then (if 0 ≤ x52 then (if x52 < (x50.length : Int) then ((record_number.f ((rd_T47 x50 x52).f0)).bind fun t109 => (if t109 = true then (if x52 > 0 then (if 0 ≤ (wrap64 (x52 - 1)) then (if (wrap64 (x52 - 1)) < (x103005.length : Int) then (if ((rd_T47 x50 x52).f0) ≤ ((rd_T47 x103005 (wrap64 (x52 - 1))).f0) then (some false) else ((value_May.f ((rd_T47 x50 x52).f1.f0) ((rd_T47 x50 x52).f1.f1) ((rd_T47 x50 x52).f1.f2)).bind fun t111 => (if t111 = true then (if ((rd_T47 x50 x52).f1.f0) = 0 then (some false) else (record_May.l1 k x50 x51 (wrap64 (x52 + 1)) x103000 x103001 x103002 x103003 x103004 x103005)) else (some false)))) else (none)) else (none)) else ((value_May.f ((rd_T47 x50 x52).f1.f0) ((rd_T47 x50 x52).f1.f1) ((rd_T47 x50 x52).f1.f2)).bind fun t112 => (if t112 = true then (if ((rd_T47 x50 x52).f1.f0) = 0 then (some false) else (record_May.l1 k x50 x51 (wrap64 (x52 + 1)) x103000 x103001 x103002 x103003 x103004 x103005)) else (some false)))) else (some false))) else (none)) else (none)) else (if x103000 = true then (some ((x103001.length : Int) == 0)) else (if x103002 = 0 then (if x103003 = 0 then (some (x103004 == 0)) else (some false)) else (some false)))
end
def record_May.f (k : Nat) (a0_0 : Bool) (l0_1 : List Int) (a0_2 : Int) (a0_3 : Int) (a0_4 : Int) (l0_5 : List (S47)) : Option (Bool) := if (l0_1.length : Int) > 8 then (record_May.j0 k true a0_0 l0_1 a0_2 a0_3 a0_4 l0_5) else (if (l0_5.length : Int) > 16 then (record_May.j0 k true a0_0 l0_1 a0_2 a0_3 a0_4 l0_5) else ((record_number.f a0_2).bind fun t103 => (record_May.j0 k (!t103) a0_0 l0_1 a0_2 a0_3 a0_4 l0_5)))
theorem record_May.mono_l : ∀ k, (∀ y0 y1 y2 y3 y4 y5 y6, LeO (record_May.j0 k y0 y1 y2 y3 y4 y5 y6) (record_May.j0 (k + 1) y0 y1 y2 y3 y4 y5 y6)) ∧ (∀ y0 y1 y2 y3 y4 y5 y6 y7 y8, LeO (record_May.l0 k y0 y1 y2 y3 y4 y5 y6 y7 y8) (record_May.l0 (k + 1) y0 y1 y2 y3 y4 y5 y6 y7 y8)) ∧ (∀ y0 y1 y2 y3 y4 y5 y6 y7 y8, LeO (record_May.l1 k y0 y1 y2 y3 y4 y5 y6 y7 y8) (record_May.l1 (k + 1) y0 y1 y2 y3 y4 y5 y6 y7 y8))
 | 0 => ⟨fun _ _ _ _ _ _ _ r h => by simp [record_May.j0] at h, fun _ _ _ _ _ _ _ _ _ r h => by simp [record_May.l0] at h, fun _ _ _ _ _ _ _ _ _ r h => by simp [record_May.l1] at h⟩
 | k + 1 => by
  obtain ⟨ih0, ih1, ih2⟩ := record_May.mono_l k
  refine ⟨?_, ?_, ?_⟩
  ·intro y0 y1 y2 y3 y4 y5 y6
   unfold record_May.j0
   repeat' first
   | (with_reducible exact ih0 _ _ _ _ _ _ _)
   | (with_reducible exact ih1 _ _ _ _ _ _ _ _ _)
   | (with_reducible exact ih2 _ _ _ _ _ _ _ _ _)
   | (with_reducible exact LeO.refl _)
   | (with_reducible exact LeO.none _)
   | (with_reducible refine LeO.ite ?_ ?_)
   | (with_reducible refine LeO.bind ?_ (fun _ => ?_))
   | exact ih0 _ _ _ _ _ _ _
   | exact ih1 _ _ _ _ _ _ _ _ _
   | exact ih2 _ _ _ _ _ _ _ _ _
   | exact LeO.none _
   | refine LeO.ite ?_ ?_
   | refine LeO.bind ?_ (fun _ => ?_)
  ·intro y0 y1 y2 y3 y4 y5 y6 y7 y8
   unfold record_May.l0
   repeat' first
   | (with_reducible exact ih0 _ _ _ _ _ _ _)
   | (with_reducible exact ih1 _ _ _ _ _ _ _ _ _)
   | (with_reducible exact ih2 _ _ _ _ _ _ _ _ _)
   | (with_reducible exact LeO.refl _)
   | (with_reducible exact LeO.none _)
   | (with_reducible refine LeO.ite ?_ ?_)
   | (with_reducible refine LeO.bind ?_ (fun _ => ?_))
   | exact ih0 _ _ _ _ _ _ _
   | exact ih1 _ _ _ _ _ _ _ _ _
   | exact ih2 _ _ _ _ _ _ _ _ _
   | exact LeO.none _
   | refine LeO.ite ?_ ?_
   | refine LeO.bind ?_ (fun _ => ?_)
  ·intro y0 y1 y2 y3 y4 y5 y6 y7 y8
   unfold record_May.l1
   repeat' first
   | (with_reducible exact ih0 _ _ _ _ _ _ _)
   | (with_reducible exact ih1 _ _ _ _ _ _ _ _ _)
   | (with_reducible exact ih2 _ _ _ _ _ _ _ _ _)
   | (with_reducible exact LeO.refl _)
   | (with_reducible exact LeO.none _)
   | (with_reducible refine LeO.ite ?_ ?_)
   | (with_reducible refine LeO.bind ?_ (fun _ => ?_))
   | exact ih0 _ _ _ _ _ _ _
   | exact ih1 _ _ _ _ _ _ _ _ _
   | exact ih2 _ _ _ _ _ _ _ _ _
   | exact LeO.none _
   | refine LeO.ite ?_ ?_
   | refine LeO.bind ?_ (fun _ => ?_)
theorem record_May.mono : ∀ a0 a1 a2 a3 a4 a5 k, LeO (record_May.f k a0 a1 a2 a3 a4 a5) (record_May.f (k + 1) a0 a1 a2 a3 a4 a5) := by
 intro a0 a1 a2 a3 a4 a5 k
 obtain ⟨ih0, ih1, ih2⟩ := record_May.mono_l k
 unfold record_May.f
 repeat' first
   | (with_reducible exact ih0 _ _ _ _ _ _ _)
   | (with_reducible exact ih1 _ _ _ _ _ _ _ _ _)
   | (with_reducible exact ih2 _ _ _ _ _ _ _ _ _)
   | (with_reducible exact LeO.refl _)
   | (with_reducible exact LeO.none _)
   | (with_reducible refine LeO.ite ?_ ?_)
   | (with_reducible refine LeO.bind ?_ (fun _ => ?_))
   | exact ih0 _ _ _ _ _ _ _
   | exact ih1 _ _ _ _ _ _ _ _ _
   | exact ih2 _ _ _ _ _ _ _ _ _
   | exact LeO.none _
   | refine LeO.ite ?_ ?_
   | refine LeO.bind ?_ (fun _ => ?_)
def record_May.T12 : Bool × List (List Nat × List Nat) := (true, [([], []), ([0], [0]), ([1], [1]), ([2], [2]), ([3, 2], [3]), ([4], [4]), ([5, 4], [4, 5]), ([6, 4, 4], [4, 6]), ([7], [7]), ([8, 7], [7, 8]), ([7], [7]), ([10, 7], [7, 10]), ([7], [7]), ([12, 7], [7, 12]), ([11, 13, 7], [7, 11, 13]), ([14, 7], [7, 14]), ([15, 7], [7, 15]), ([9, 16, 7], [7, 9, 16]), ([7, 17, 4], [4, 7, 17]), ([4, 18], [4, 18]), ([19, 7], [19]), ([20], [20]), ([21, 20], [20, 21]), ([22, 20, 20], [20, 22]), ([23, 20], [20, 23]), ([20, 24], [20, 24]), ([25, 23], [25]), ([26], [26]), ([27, 26], [26, 27]), ([28, 26], [26, 28]), ([29, 26], [26, 29]), ([26, 30], [26, 30])])
def record_May.B12 : List Nat := [0, 1, 3, 7, 15, 31, 63, 127, 255, 511, 255, 1279, 255, 4351, 15615, 31999, 64767, 131071, 262143, 524287, 1048575, 2097151, 4194303, 8388607, 16777215, 33554431, 67108863, 134217727, 268435455, 536870911, 1073741823, 2147483647]
theorem record_May.tab12 : rtab .any (opsOf Tryd.f11 12) = record_May.T12 := by kernel_rfl
theorem record_May.bits12 : waitsOk record_May.T12.2 record_May.B12 = true := by kernel_rfl
set_option maxHeartbeats 8000000 in
set_option maxRecDepth 100000 in
theorem record_May.calls (k : Nat) (a0_0 : Bool) (A0_1 : Option Addr) (c0_1 : Nat) (l0_1 : List Int) (a0_2 : Int) (a0_3 : Int) (a0_4 : Int) (A0_5 : Option Addr) (c0_5 : Nat) (l0_5 : List (S47)) (r : Bool) (w : World) (hr0_1 : Kd.C (Kd.int .i64) w A0_1 l0_1.length l0_1) (hc0_1 : l0_1.length ≤ c0_1) (hr0_5 : Kd.C k47 w A0_5 l0_5.length l0_5) (hc0_5 : l0_5.length ≤ c0_5) (h : record_May.f k a0_0 l0_1 a0_2 a0_3 a0_4 l0_5 = some r) :
  Calls Tryd.prog 11 #[.agg #[.bool a0_0, .slice A0_1 l0_1.length c0_1, .int .i64 a0_2, .int .u64 a0_3, .int .u64 a0_4, .slice A0_5 l0_5.length c0_5]] w fun e w' => e = .returned (.bool r) ∧ Below w.heap.size w w' := by
 have hu26 := Tryd.underlying26
 have hu47 := Tryd.underlying47
 have hu42 := Tryd.underlying42
 have HR0_1 := zM hr0_1
 have HC0_1 := zM hc0_1
 clear hr0_1 hc0_1
 have HR0_5 := zM hr0_5
 have HC0_5 := zM hc0_5
 clear hr0_5 hc0_5
 have HB := zM (Below.refl w.heap.size w)
 have H : (if (l0_1.length : Int) > 8 then (record_May.j0 k true a0_0 l0_1 a0_2 a0_3 a0_4 l0_5) else (if (l0_5.length : Int) > 16 then (record_May.j0 k true a0_0 l0_1 a0_2 a0_3 a0_4 l0_5) else ((record_number.f a0_2).bind fun t103 => (record_May.j0 k (!t103) a0_0 l0_1 a0_2 a0_3 a0_4 l0_5)))) = some r := h
 clear h
 have HC2 := zM H
 clear H
 go_enter Tryd.func11, Tryd.ntmps11
 go_upto_region 1 with (first | ((with_reducible refine gate_dst (N := 1) rfl ?_); (try (refine gate_guard (by rfl) ?_; dsimp only)); refine box_event ?hg (N := 1) ?hd (cs := #[.bool a0_0, .slice A0_1 l0_1.length c0_1, .int .i64 a0_2, .int .u64 a0_3, .int .u64 a0_4, .slice A0_5 l0_5.length c0_5]) (t := 26) ?hr ?_; (case hd => rfl); (case hg => rfl); (case hr => first | (go_simp; done) | (go_simp; rfl)); intro gb102 hg w3 hbox hb; have n0_ := zM (below_step (by repeat (first | (with_reducible first | exact HB.out | apply zL | apply zP | apply zW) | exact HB.out)) hb); have n1_ := zM (hbox); have n2_ := zM ((by rw [hg]; exact (below_size (by repeat (first | (with_reducible first | exact HB.out | apply zL | apply zP | apply zW) | exact HB.out))) : w.heap.size ≤ gb102)); have n3_ := zM ((by rw [hg]; exact (below_size (by repeat (first | (with_reducible first | exact HB.out | apply zL | apply zP | apply zW) | exact HB.out))) : w.heap.size ≤ gb102)); clear HB; have HB := n0_; have BK102 := n1_; have GW102 := n2_; have GE102 := n3_; clear n0_ n1_ n2_ n3_; clear hb hbox hg))
 (try simp only [Act.put, zT, zZ, zU])
 go_cut [22] (fun v22 wc => ∃ (kq : Nat) (x22_1 : Bool), v22 = .bool x22_1 ∧ Aside0 (record_May.j0 kq x22_1 a0_0 l0_1 a0_2 a0_3 a0_4 l0_5 = some r) ∧ Aside0 (kq ≤ k) ∧ Aside0 (wc.heap[gb102]? = some (.cells #[.bool a0_0, (.slice A0_1 l0_1.length c0_1), .int .i64 a0_2, .int .u64 a0_3, .int .u64 a0_4, (.slice A0_5 l0_5.length c0_5)] 26 (0, 0))) ∧ Aside0 (Below w.heap.size w wc))
 case first =>
  have H := HC2.out
  clear HC2
  by_cases c4 : (l0_1.length : Int) > 8
  ·rw [if_pos c4] at H
   have c4b0 : decide (8 < (l0_1.length : Int)) = true := decide_eq_true c4
   have c4b1 : decide (8 < l0_1.length) = true := decide_eq_true (by omega)
   clear c4
   (first | rw [c4b0] | (simp only [i64_w, i32_w]; rw [c4b0]) | skip)
   have H' := zM H
   clear H
   have hcz5_0 : w3.cell? ⟨gb102, 0, none⟩ = some (.bool a0_0) := (zC BK102.out 0).trans rfl
   have hcz5_1 : w3.cell? ⟨gb102, 1, none⟩ = some (.slice A0_1 l0_1.length c0_1) := (zC BK102.out 1).trans rfl
   have hcz5_2 : w3.cell? ⟨gb102, 2, none⟩ = some (.int .i64 a0_2) := (zC BK102.out 2).trans rfl
   have hcz5_3 : w3.cell? ⟨gb102, 3, none⟩ = some (.int .u64 a0_3) := (zC BK102.out 3).trans rfl
   have hcz5_4 : w3.cell? ⟨gb102, 4, none⟩ = some (.int .u64 a0_4) := (zC BK102.out 4).trans rfl
   have hcz5_5 : w3.cell? ⟨gb102, 5, none⟩ = some (.slice A0_5 l0_5.length c0_5) := (zC BK102.out 5).trans rfl
   have hfz5_0 := zF BK102.out 0
   have hfz5_1 := zF BK102.out 1
   have hfz5_2 := zF BK102.out 2
   have hfz5_3 := zF BK102.out 3
   have hfz5_4 := zF BK102.out 4
   have hfz5_5 := zF BK102.out 5
   go_wp2
   go_meet
   case rel => exact ⟨_, (true), (by first | rfl | (simp; done) | (simp [*]; done)), H', ⟨by first | omega | exact Nat.le_refl _⟩, ⟨by (with_reducible repeat (first | refine zN ?_ _ | refine zD ?_ | refine zA ?_ _)); exact BK102.out⟩, ⟨by repeat (first | (with_reducible first | exact HB.out | apply zL | apply zP | apply zW | refine zS ?_ GE102.out) | exact HB.out)⟩⟩
  ·rw [if_neg c4] at H
   have c4b0 : decide (8 < (l0_1.length : Int)) = false := decide_eq_false c4
   have c4b1 : decide (8 < l0_1.length) = false := decide_eq_false (by omega)
   clear c4
   (first | rw [c4b0] | (simp only [i64_w, i32_w]; rw [c4b0]) | skip)
   by_cases c6 : (l0_5.length : Int) > 16
   ·rw [if_pos c6] at H
    have c6b0 : decide (16 < (l0_5.length : Int)) = true := decide_eq_true c6
    have c6b1 : decide (16 < l0_5.length) = true := decide_eq_true (by omega)
    clear c6
    have H' := zM H
    clear H
    have hcz7_0 : w3.cell? ⟨gb102, 0, none⟩ = some (.bool a0_0) := (zC BK102.out 0).trans rfl
    have hcz7_1 : w3.cell? ⟨gb102, 1, none⟩ = some (.slice A0_1 l0_1.length c0_1) := (zC BK102.out 1).trans rfl
    have hcz7_2 : w3.cell? ⟨gb102, 2, none⟩ = some (.int .i64 a0_2) := (zC BK102.out 2).trans rfl
    have hcz7_3 : w3.cell? ⟨gb102, 3, none⟩ = some (.int .u64 a0_3) := (zC BK102.out 3).trans rfl
    have hcz7_4 : w3.cell? ⟨gb102, 4, none⟩ = some (.int .u64 a0_4) := (zC BK102.out 4).trans rfl
    have hcz7_5 : w3.cell? ⟨gb102, 5, none⟩ = some (.slice A0_5 l0_5.length c0_5) := (zC BK102.out 5).trans rfl
    have hfz7_0 := zF BK102.out 0
    have hfz7_1 := zF BK102.out 1
    have hfz7_2 := zF BK102.out 2
    have hfz7_3 := zF BK102.out 3
    have hfz7_4 := zF BK102.out 4
    have hfz7_5 := zF BK102.out 5
    go_wp2
    go_meet
    case rel => exact ⟨_, (true), (by first | rfl | (simp; done) | (simp [*]; done)), H', ⟨by first | omega | exact Nat.le_refl _⟩, ⟨by (with_reducible repeat (first | refine zN ?_ _ | refine zD ?_ | refine zA ?_ _)); exact BK102.out⟩, ⟨by repeat (first | (with_reducible first | exact HB.out | apply zL | apply zP | apply zW | refine zS ?_ GE102.out) | exact HB.out)⟩⟩
   ·rw [if_neg c6] at H
    have c6b0 : decide (16 < (l0_5.length : Int)) = false := decide_eq_false c6
    have c6b1 : decide (16 < l0_5.length) = false := decide_eq_false (by omega)
    clear c6
    replace H := Option.bind_eq_some_iff.mp H
    obtain ⟨t103, A80, H⟩ := H
    replace H : (record_May.j0 k (!t103) a0_0 l0_1 a0_2 a0_3 a0_4 l0_5) = some r := H
    have A8 := zM A80
    clear A80
    have H' := zM H
    clear H
    have hcz9_0 : w3.cell? ⟨gb102, 0, none⟩ = some (.bool a0_0) := (zC BK102.out 0).trans rfl
    have hcz9_1 : w3.cell? ⟨gb102, 1, none⟩ = some (.slice A0_1 l0_1.length c0_1) := (zC BK102.out 1).trans rfl
    have hcz9_2 : w3.cell? ⟨gb102, 2, none⟩ = some (.int .i64 a0_2) := (zC BK102.out 2).trans rfl
    have hcz9_3 : w3.cell? ⟨gb102, 3, none⟩ = some (.int .u64 a0_3) := (zC BK102.out 3).trans rfl
    have hcz9_4 : w3.cell? ⟨gb102, 4, none⟩ = some (.int .u64 a0_4) := (zC BK102.out 4).trans rfl
    have hcz9_5 : w3.cell? ⟨gb102, 5, none⟩ = some (.slice A0_5 l0_5.length c0_5) := (zC BK102.out 5).trans rfl
    have hfz9_0 := zF BK102.out 0
    have hfz9_1 := zF BK102.out 1
    have hfz9_2 := zF BK102.out 2
    have hfz9_3 := zF BK102.out 3
    have hfz9_4 := zF BK102.out 4
    have hfz9_5 := zF BK102.out 5
    go_wp2_with (first | (go_at_call 32; (with_reducible refine (record_number.calls a0_2 t103 _ A8.out).mono ?_); rintro e w' ⟨rfl, ⟨nd, rfl⟩⟩))
    go_meet
    case rel => exact ⟨_, (!t103), (by first | rfl | (simp; done) | (simp [*]; done)), H', ⟨by first | omega | exact Nat.le_refl _⟩, ⟨by (with_reducible repeat (first | refine zN ?_ _ | refine zD ?_ | refine zA ?_ _)); exact BK102.out⟩, ⟨by repeat (first | (with_reducible first | exact HB.out | apply zL | apply zP | apply zW | refine zS ?_ GE102.out) | exact HB.out)⟩⟩
 case rest =>
  clear HC2
  try clear c1
  try clear p2
  try clear c4
  try clear c4b0
  try clear c4b1
  try clear c6
  try clear c6b0
  try clear c6b1
  try clear hcz5_0
  try clear hcz5_1
  try clear hcz5_2
  try clear hcz5_3
  try clear hcz5_4
  try clear hcz5_5
  try clear hcz7_0
  try clear hcz7_1
  try clear hcz7_2
  try clear hcz7_3
  try clear hcz7_4
  try clear hcz7_5
  try clear hcz9_0
  try clear hcz9_1
  try clear hcz9_2
  try clear hcz9_3
  try clear hcz9_4
  try clear hcz9_5
  try clear hfz5_0
  try clear hfz5_1
  try clear hfz5_2
  try clear hfz5_3
  try clear hfz5_4
  try clear hfz5_5
  try clear hfz7_0
  try clear hfz7_1
  try clear hfz7_2
  try clear hfz7_3
  try clear hfz7_4
  try clear hfz7_5
  try clear hfz9_0
  try clear hfz9_1
  try clear hfz9_2
  try clear hfz9_3
  try clear hfz9_4
  try clear hfz9_5
  obtain ⟨kq, x22_1, rfl, HA, HJ1, BK102, HB⟩ := hcut
  cases kq with
  | zero => exact absurd HA.out (by simp [record_May.j0])
  | succ kj1 =>
   have H := HA.out
   clear HA
   simp only [record_May.j0] at H
   by_cases c10 : x22_1 = true
   ·subst c10
    have H1 : (some false) = some r := by rw [if_pos rfl] at H; exact H
    clear H
    have H := H1
    clear H1
    obtain rfl := Option.some.inj H
    go_wp2
    go_ret
    exact ⟨by first | rfl | (simp [errW_none, errW_some] <;> rfl) | (simp [*, errW_none, errW_some] <;> rfl), by repeat (first | (with_reducible first | exact HB.out | apply zL | apply zP | apply zW | refine zS ?_ GE102.out) | exact HB.out)⟩
   ·replace c10 := Bool.eq_false_iff.mpr c10
    subst c10
    have H1 : (record_May.l0 kj1 l0_1 (l0_1.length : Int) 0 a0_0 l0_1 a0_2 a0_3 a0_4 l0_5) = some r := by rw [if_neg (show ¬ (false = true) by decide)] at H; exact H
    clear H
    have H := H1
    clear H1
    have H' := zM H
    clear H
    have hcz11_0 : wc.cell? ⟨gb102, 0, none⟩ = some (.bool a0_0) := (zC BK102.out 0).trans rfl
    have hcz11_1 : wc.cell? ⟨gb102, 1, none⟩ = some (.slice A0_1 l0_1.length c0_1) := (zC BK102.out 1).trans rfl
    have hcz11_2 : wc.cell? ⟨gb102, 2, none⟩ = some (.int .i64 a0_2) := (zC BK102.out 2).trans rfl
    have hcz11_3 : wc.cell? ⟨gb102, 3, none⟩ = some (.int .u64 a0_3) := (zC BK102.out 3).trans rfl
    have hcz11_4 : wc.cell? ⟨gb102, 4, none⟩ = some (.int .u64 a0_4) := (zC BK102.out 4).trans rfl
    have hcz11_5 : wc.cell? ⟨gb102, 5, none⟩ = some (.slice A0_5 l0_5.length c0_5) := (zC BK102.out 5).trans rfl
    have hfz11_0 := zF BK102.out 0
    have hfz11_1 := zF BK102.out 1
    have hfz11_2 := zF BK102.out 2
    have hfz11_3 := zF BK102.out 3
    have hfz11_4 := zF BK102.out 4
    have hfz11_5 := zF BK102.out 5
    go_wp2
    go_loopg [26] kj1 (fun kq v26 w' => ∃ (x26_2 : Int), v26 = .int .i64 x26_2 ∧ Aside0 (record_May.l0 kq l0_1 (l0_1.length : Int) x26_2 a0_0 l0_1 a0_2 a0_3 a0_4 l0_5 = some r) ∧ Aside0 (kq ≤ kj1) ∧ Aside0 (w'.heap[gb102]? = some (.cells #[.bool a0_0, (.slice A0_1 l0_1.length c0_1), .int .i64 a0_2, .int .u64 a0_3, .int .u64 a0_4, (.slice A0_5 l0_5.length c0_5)] 26 (0, 0))) ∧ Aside0 (Below w.heap.size w w'))
    case atStart => exact ⟨(0), (by first | rfl | (simp; done) | (simp [*]; done)), H', ⟨Nat.le_refl _⟩, ⟨by (with_reducible repeat (first | refine zN ?_ _ | refine zD ?_ | refine zA ?_ _)); exact BK102.out⟩, ⟨by repeat (first | (with_reducible first | exact HB.out | apply zL | apply zP | apply zW | refine zS ?_ GE102.out) | exact HB.out)⟩⟩
    case round =>
     clear H'
     try clear c1
     try clear p2
     try clear c4
     try clear c4b0
     try clear c4b1
     try clear c6
     try clear c6b0
     try clear c6b1
     try clear c10
     try clear c11
     try clear hcz11_0
     try clear hcz11_1
     try clear hcz11_2
     try clear hcz11_3
     try clear hcz11_4
     try clear hcz11_5
     try clear hcz5_0
     try clear hcz5_1
     try clear hcz5_2
     try clear hcz5_3
     try clear hcz5_4
     try clear hcz5_5
     try clear hcz7_0
     try clear hcz7_1
     try clear hcz7_2
     try clear hcz7_3
     try clear hcz7_4
     try clear hcz7_5
     try clear hcz9_0
     try clear hcz9_1
     try clear hcz9_2
     try clear hcz9_3
     try clear hcz9_4
     try clear hcz9_5
     try clear hfz11_0
     try clear hfz11_1
     try clear hfz11_2
     try clear hfz11_3
     try clear hfz11_4
     try clear hfz11_5
     try clear hfz5_0
     try clear hfz5_1
     try clear hfz5_2
     try clear hfz5_3
     try clear hfz5_4
     try clear hfz5_5
     try clear hfz7_0
     try clear hfz7_1
     try clear hfz7_2
     try clear hfz7_3
     try clear hfz7_4
     try clear hfz7_5
     try clear hfz9_0
     try clear hfz9_1
     try clear hfz9_2
     try clear hfz9_3
     try clear hfz9_4
     try clear hfz9_5
     try clear p2
     obtain ⟨x26_2, rfl, HA, HK2, BK102, HB⟩ := hrel
     cases gk with
     | zero => exact absurd HA.out (by simp [record_May.l0])
     | succ k2 =>
      have H := HA.out
      clear HA
      simp only [record_May.l0] at H
      by_cases c12 : x26_2 < (l0_1.length : Int)
      ·rw [if_pos c12] at H
       have c12b0 : decide (x26_2 < (l0_1.length : Int)) = true := decide_eq_true c12
       clear c12
       by_cases c13 : 0 ≤ x26_2
       ·rw [if_pos c13] at H
        have c13b0 : decide (0 ≤ x26_2) = true := decide_eq_true c13
        clear c13
        by_cases c14 : x26_2 < (l0_1.length : Int)
        ·rw [if_pos c14] at H
         have c14b0 : decide (x26_2 < (l0_1.length : Int)) = true := decide_eq_true c14
         clear c14
         replace H := Option.bind_eq_some_iff.mp H
         obtain ⟨t105, A150, H⟩ := H
         replace H : (if t105 = true then (if x26_2 > 0 then (if 0 ≤ (wrap64 (x26_2 - 1)) then (if (wrap64 (x26_2 - 1)) < (l0_1.length : Int) then (if (rd l0_1 x26_2) ≤ (rd l0_1 (wrap64 (x26_2 - 1))) then (some false) else (record_May.l0 k2 l0_1 (l0_1.length : Int) (wrap64 (x26_2 + 1)) a0_0 l0_1 a0_2 a0_3 a0_4 l0_5)) else (none)) else (none)) else (record_May.l0 k2 l0_1 (l0_1.length : Int) (wrap64 (x26_2 + 1)) a0_0 l0_1 a0_2 a0_3 a0_4 l0_5)) else (some false)) = some r := H
         have A15 := zM A150
         clear A150
         by_cases c16 : t105 = true
         ·subst c16
          have H1 : (if x26_2 > 0 then (if 0 ≤ (wrap64 (x26_2 - 1)) then (if (wrap64 (x26_2 - 1)) < (l0_1.length : Int) then (if (rd l0_1 x26_2) ≤ (rd l0_1 (wrap64 (x26_2 - 1))) then (some false) else (record_May.l0 k2 l0_1 (l0_1.length : Int) (wrap64 (x26_2 + 1)) a0_0 l0_1 a0_2 a0_3 a0_4 l0_5)) else (none)) else (none)) else (record_May.l0 k2 l0_1 (l0_1.length : Int) (wrap64 (x26_2 + 1)) a0_0 l0_1 a0_2 a0_3 a0_4 l0_5)) = some r := by rw [if_pos rfl] at H; exact H
          clear H
          have H := H1
          clear H1
          by_cases c17 : x26_2 > 0
          ·rw [if_pos c17] at H
           have c17b0 : decide (0 < x26_2) = true := decide_eq_true c17
           clear c17
           obtain ⟨ji18, hji18⟩ : ∃ j_ : Int, (wrap64 (x26_2 - 1)) = j_ := ⟨_, rfl⟩
           replace H : (if 0 ≤ (ji18) then (if (ji18) < (l0_1.length : Int) then (if (rd l0_1 x26_2) ≤ (rd l0_1 (ji18)) then (some false) else (record_May.l0 k2 l0_1 (l0_1.length : Int) (wrap64 (x26_2 + 1)) a0_0 l0_1 a0_2 a0_3 a0_4 l0_5)) else (none)) else (none)) = some r := by first | (rw [hji18] at H; exact H) | (simp only [hji18] at H ⊢; exact H)
           (try rw [hji18] at A15)
           have hji18w : (IntKind.i64.wrap (x26_2 - 1)) = ji18 := (i64_w _).trans hji18
           by_cases c19 : 0 ≤ (ji18)
           ·rw [if_pos c19] at H
            have c19b0 : decide (0 ≤ (ji18)) = true := decide_eq_true c19
            clear c19
            by_cases c20 : (ji18) < (l0_1.length : Int)
            ·rw [if_pos c20] at H
             have c20b0 : decide ((ji18) < (l0_1.length : Int)) = true := decide_eq_true c20
             clear c20
             by_cases c21 : (rd l0_1 x26_2) ≤ (rd l0_1 (ji18))
             ·rw [if_pos c21] at H
              have c21b0 : decide ((rd l0_1 x26_2) ≤ (rd l0_1 (ji18))) = true := decide_eq_true c21
              clear c21
              obtain rfl := Option.some.inj H
              have p104 : 0 ≤ (x26_2 : Int) := of_decide_eq_true (by first | (with_reducible assumption) | assumption)
              have q104 : x26_2 < (l0_1.length : Int) := of_decide_eq_true (by first | (with_reducible assumption) | assumption)
              obtain ⟨ad104, e104, hx104_0⟩ := Kd.at_int HR0_1.out x26_2 p104 q104
              cases e104
              replace hx104_0 := (HB.out.cell (World.block_lt_of_cell? w _ hx104_0)).trans hx104_0
              replace p104 := eq_true p104
              replace q104 := eq_true q104
              go_wp2_with (first | ((with_reducible refine gate_callee (f := 32) rfl ?_); refine goesL_ (some 32) rfl rfl Tryd.func32 (by kernel_rfl) rfl #[.int .i64 (rd l0_1 x26_2)] rfl (by (try simp only [zY, List.map_cons, List.map_nil]); first | done | rfl | (simp only [zV, zX]; rfl)) ?_; (with_reducible refine (record_number.calls (rd l0_1 x26_2) true _ A15.out).mono ?_); rintro e w' ⟨rfl, ⟨nd, rfl⟩⟩; refine ⟨_, rfl, ?_⟩; have hcz22_0 : wr.cell? ⟨gb102, 0, none⟩ = some (.bool a0_0) := (zC BK102.out 0).trans rfl; have hcz22_1 : wr.cell? ⟨gb102, 1, none⟩ = some (.slice (some ad104) l0_1.length c0_1) := (zC BK102.out 1).trans rfl; have hcz22_2 : wr.cell? ⟨gb102, 2, none⟩ = some (.int .i64 a0_2) := (zC BK102.out 2).trans rfl; have hcz22_3 : wr.cell? ⟨gb102, 3, none⟩ = some (.int .u64 a0_3) := (zC BK102.out 3).trans rfl; have hcz22_4 : wr.cell? ⟨gb102, 4, none⟩ = some (.int .u64 a0_4) := (zC BK102.out 4).trans rfl; have hcz22_5 : wr.cell? ⟨gb102, 5, none⟩ = some (.slice A0_5 l0_5.length c0_5) := (zC BK102.out 5).trans rfl; have hfz22_0 := zF BK102.out 0; have hfz22_1 := zF BK102.out 1; have hfz22_2 := zF BK102.out 2; have hfz22_3 := zF BK102.out 3; have hfz22_4 := zF BK102.out 4; have hfz22_5 := zF BK102.out 5; have p106 : 0 ≤ ((ji18) : Int) := of_decide_eq_true (by first | (with_reducible assumption) | assumption); have q106 : (ji18) < (l0_1.length : Int) := of_decide_eq_true (by first | (with_reducible assumption) | assumption); obtain ⟨ad106, e106, hx106_0⟩ := Kd.at_int HR0_1.out (ji18) p106 q106; obtain rfl : ad104 = ad106 := (by injection e106); replace hx106_0 := (HB.out.cell (World.block_lt_of_cell? w _ hx106_0)).trans hx106_0; replace p106 := eq_true p106; replace q106 := eq_true q106))
              go_ret
              exact ⟨by first | rfl | (simp [errW_none, errW_some] <;> rfl) | (simp only [← hji18]; first | rfl | (simp [errW_none, errW_some] <;> rfl)) | (simp [*, errW_none, errW_some] <;> rfl), by repeat (first | (with_reducible first | exact HB.out | apply zL | apply zP | apply zW | refine zS ?_ GE102.out) | exact HB.out)⟩
             ·rw [if_neg c21] at H
              have c21b0 : decide ((rd l0_1 x26_2) ≤ (rd l0_1 (ji18))) = false := decide_eq_false c21
              clear c21
              have H' := zM H
              clear H
              have p104 : 0 ≤ (x26_2 : Int) := of_decide_eq_true (by first | (with_reducible assumption) | assumption)
              have q104 : x26_2 < (l0_1.length : Int) := of_decide_eq_true (by first | (with_reducible assumption) | assumption)
              obtain ⟨ad104, e104, hx104_0⟩ := Kd.at_int HR0_1.out x26_2 p104 q104
              cases e104
              replace hx104_0 := (HB.out.cell (World.block_lt_of_cell? w _ hx104_0)).trans hx104_0
              replace p104 := eq_true p104
              replace q104 := eq_true q104
              go_wp2_with (first | ((with_reducible refine gate_callee (f := 32) rfl ?_); refine goesL_ (some 32) rfl rfl Tryd.func32 (by kernel_rfl) rfl #[.int .i64 (rd l0_1 x26_2)] rfl (by (try simp only [zY, List.map_cons, List.map_nil]); first | done | rfl | (simp only [zV, zX]; rfl)) ?_; (with_reducible refine (record_number.calls (rd l0_1 x26_2) true _ A15.out).mono ?_); rintro e w' ⟨rfl, ⟨nd, rfl⟩⟩; refine ⟨_, rfl, ?_⟩; have hcz23_0 : wr.cell? ⟨gb102, 0, none⟩ = some (.bool a0_0) := (zC BK102.out 0).trans rfl; have hcz23_1 : wr.cell? ⟨gb102, 1, none⟩ = some (.slice (some ad104) l0_1.length c0_1) := (zC BK102.out 1).trans rfl; have hcz23_2 : wr.cell? ⟨gb102, 2, none⟩ = some (.int .i64 a0_2) := (zC BK102.out 2).trans rfl; have hcz23_3 : wr.cell? ⟨gb102, 3, none⟩ = some (.int .u64 a0_3) := (zC BK102.out 3).trans rfl; have hcz23_4 : wr.cell? ⟨gb102, 4, none⟩ = some (.int .u64 a0_4) := (zC BK102.out 4).trans rfl; have hcz23_5 : wr.cell? ⟨gb102, 5, none⟩ = some (.slice A0_5 l0_5.length c0_5) := (zC BK102.out 5).trans rfl; have hfz23_0 := zF BK102.out 0; have hfz23_1 := zF BK102.out 1; have hfz23_2 := zF BK102.out 2; have hfz23_3 := zF BK102.out 3; have hfz23_4 := zF BK102.out 4; have hfz23_5 := zF BK102.out 5; have p106 : 0 ≤ ((ji18) : Int) := of_decide_eq_true (by first | (with_reducible assumption) | assumption); have q106 : (ji18) < (l0_1.length : Int) := of_decide_eq_true (by first | (with_reducible assumption) | assumption); obtain ⟨ad106, e106, hx106_0⟩ := Kd.at_int HR0_1.out (ji18) p106 q106; obtain rfl : ad104 = ad106 := (by injection e106); replace hx106_0 := (HB.out.cell (World.block_lt_of_cell? w _ hx106_0)).trans hx106_0; replace p106 := eq_true p106; replace q106 := eq_true q106))
              go_roundg k2
              case measure => have := HJ1.out; have := HK2.out; omega
              case rel => exact ⟨(wrap64 (x26_2 + 1)), (by first | rfl | (simp; done) | (simp [*]; done)), H', ⟨by have := HJ1.out; have := HK2.out; omega⟩, ⟨by (with_reducible repeat (first | refine zN ?_ _ | refine zD ?_ | refine zA ?_ _)); exact BK102.out⟩, ⟨by repeat (first | (with_reducible first | exact HB.out | apply zL | apply zP | apply zW | refine zS ?_ GE102.out) | exact HB.out)⟩⟩
            ·rw [if_neg c20] at H
             exact absurd H (by simp)
           ·rw [if_neg c19] at H
            exact absurd H (by simp)
          ·rw [if_neg c17] at H
           have c17b0 : decide (0 < x26_2) = false := decide_eq_false c17
           clear c17
           have H' := zM H
           clear H
           have p104 : 0 ≤ (x26_2 : Int) := of_decide_eq_true (by first | (with_reducible assumption) | assumption)
           have q104 : x26_2 < (l0_1.length : Int) := of_decide_eq_true (by first | (with_reducible assumption) | assumption)
           obtain ⟨ad104, e104, hx104_0⟩ := Kd.at_int HR0_1.out x26_2 p104 q104
           cases e104
           replace hx104_0 := (HB.out.cell (World.block_lt_of_cell? w _ hx104_0)).trans hx104_0
           replace p104 := eq_true p104
           replace q104 := eq_true q104
           go_wp2_with (first | ((with_reducible refine gate_callee (f := 32) rfl ?_); refine goesL_ (some 32) rfl rfl Tryd.func32 (by kernel_rfl) rfl #[.int .i64 (rd l0_1 x26_2)] rfl (by (try simp only [zY, List.map_cons, List.map_nil]); first | done | rfl | (simp only [zV, zX]; rfl)) ?_; (with_reducible refine (record_number.calls (rd l0_1 x26_2) true _ A15.out).mono ?_); rintro e w' ⟨rfl, ⟨nd, rfl⟩⟩; refine ⟨_, rfl, ?_⟩))
           go_roundg k2
           case measure => have := HJ1.out; have := HK2.out; omega
           case rel => exact ⟨(wrap64 (x26_2 + 1)), (by first | rfl | (simp; done) | (simp [*]; done)), H', ⟨by have := HJ1.out; have := HK2.out; omega⟩, ⟨by (with_reducible repeat (first | refine zN ?_ _ | refine zD ?_ | refine zA ?_ _)); exact BK102.out⟩, ⟨by repeat (first | (with_reducible first | exact HB.out | apply zL | apply zP | apply zW | refine zS ?_ GE102.out) | exact HB.out)⟩⟩
         ·replace c16 := Bool.eq_false_iff.mpr c16
          subst c16
          have H1 : (some false) = some r := by rw [if_neg (show ¬ (false = true) by decide)] at H; exact H
          clear H
          have H := H1
          clear H1
          obtain rfl := Option.some.inj H
          have p104 : 0 ≤ (x26_2 : Int) := of_decide_eq_true (by first | (with_reducible assumption) | assumption)
          have q104 : x26_2 < (l0_1.length : Int) := of_decide_eq_true (by first | (with_reducible assumption) | assumption)
          obtain ⟨ad104, e104, hx104_0⟩ := Kd.at_int HR0_1.out x26_2 p104 q104
          cases e104
          replace hx104_0 := (HB.out.cell (World.block_lt_of_cell? w _ hx104_0)).trans hx104_0
          replace p104 := eq_true p104
          replace q104 := eq_true q104
          go_wp2_with (first | ((with_reducible refine gate_callee (f := 32) rfl ?_); refine goesL_ (some 32) rfl rfl Tryd.func32 (by kernel_rfl) rfl #[.int .i64 (rd l0_1 x26_2)] rfl (by (try simp only [zY, List.map_cons, List.map_nil]); first | done | rfl | (simp only [zV, zX]; rfl)) ?_; (with_reducible refine (record_number.calls (rd l0_1 x26_2) false _ A15.out).mono ?_); rintro e w' ⟨rfl, ⟨nd, rfl⟩⟩; refine ⟨_, rfl, ?_⟩))
          go_ret
          exact ⟨by first | rfl | (simp [errW_none, errW_some] <;> rfl) | (simp [*, errW_none, errW_some] <;> rfl), by repeat (first | (with_reducible first | exact HB.out | apply zL | apply zP | apply zW | refine zS ?_ GE102.out) | exact HB.out)⟩
        ·rw [if_neg c14] at H
         exact absurd H (by simp)
       ·rw [if_neg c13] at H
        exact absurd H (by simp)
      ·rw [if_neg c12] at H
       have c12b0 : decide (x26_2 < (l0_1.length : Int)) = false := decide_eq_false c12
       clear c12
       have H' := zM H
       clear H
       have hcz24_0 : wr.cell? ⟨gb102, 0, none⟩ = some (.bool a0_0) := (zC BK102.out 0).trans rfl
       have hcz24_1 : wr.cell? ⟨gb102, 1, none⟩ = some (.slice A0_1 l0_1.length c0_1) := (zC BK102.out 1).trans rfl
       have hcz24_2 : wr.cell? ⟨gb102, 2, none⟩ = some (.int .i64 a0_2) := (zC BK102.out 2).trans rfl
       have hcz24_3 : wr.cell? ⟨gb102, 3, none⟩ = some (.int .u64 a0_3) := (zC BK102.out 3).trans rfl
       have hcz24_4 : wr.cell? ⟨gb102, 4, none⟩ = some (.int .u64 a0_4) := (zC BK102.out 4).trans rfl
       have hcz24_5 : wr.cell? ⟨gb102, 5, none⟩ = some (.slice A0_5 l0_5.length c0_5) := (zC BK102.out 5).trans rfl
       have hfz24_0 := zF BK102.out 0
       have hfz24_1 := zF BK102.out 1
       have hfz24_2 := zF BK102.out 2
       have hfz24_3 := zF BK102.out 3
       have hfz24_4 := zF BK102.out 4
       have hfz24_5 := zF BK102.out 5
       go_wp2
       go_loopg [52] k2 (fun kq v52 w' => ∃ (x52_3 : Int), v52 = .int .i64 x52_3 ∧ Aside0 (record_May.l1 kq l0_5 (l0_5.length : Int) x52_3 a0_0 l0_1 a0_2 a0_3 a0_4 l0_5 = some r) ∧ Aside0 (kq ≤ k2) ∧ Aside0 (w'.heap[gb102]? = some (.cells #[.bool a0_0, (.slice A0_1 l0_1.length c0_1), .int .i64 a0_2, .int .u64 a0_3, .int .u64 a0_4, (.slice A0_5 l0_5.length c0_5)] 26 (0, 0))) ∧ Aside0 (Below w.heap.size w w'))
       case atStart => exact ⟨(0), (by first | rfl | (simp; done) | (simp [*]; done)), H', ⟨Nat.le_refl _⟩, ⟨by (with_reducible repeat (first | refine zN ?_ _ | refine zD ?_ | refine zA ?_ _)); exact BK102.out⟩, ⟨by repeat (first | (with_reducible first | exact HB.out | apply zL | apply zP | apply zW | refine zS ?_ GE102.out) | exact HB.out)⟩⟩
       case round =>
        clear H'
        try clear c1
        try clear p1
        try clear q1
        try clear hx1
        try clear c2
        try clear p2
        try clear c3
        try clear c4
        try clear c4b0
        try clear c4b1
        try clear c6
        try clear c6b0
        try clear c6b1
        try clear p6
        try clear c10
        try clear p10
        try clear q10
        try clear hx10
        try clear c11
        try clear c12
        try clear c12b0
        try clear c13
        try clear c13b0
        try clear c14
        try clear c14b0
        try clear c16
        try clear c17
        try clear c17b0
        try clear c19
        try clear c19b0
        try clear c20
        try clear c20b0
        try clear c21
        try clear c21b0
        try clear hcz11_0
        try clear hcz11_1
        try clear hcz11_2
        try clear hcz11_3
        try clear hcz11_4
        try clear hcz11_5
        try clear hcz22_0
        try clear hcz22_1
        try clear hcz22_2
        try clear hcz22_3
        try clear hcz22_4
        try clear hcz22_5
        try clear hcz23_0
        try clear hcz23_1
        try clear hcz23_2
        try clear hcz23_3
        try clear hcz23_4
        try clear hcz23_5
        try clear hcz24_0
        try clear hcz24_1
        try clear hcz24_2
        try clear hcz24_3
        try clear hcz24_4
        try clear hcz24_5
        try clear hcz5_0
        try clear hcz5_1
        try clear hcz5_2
        try clear hcz5_3
        try clear hcz5_4
        try clear hcz5_5
        try clear hcz7_0
        try clear hcz7_1
        try clear hcz7_2
        try clear hcz7_3
        try clear hcz7_4
        try clear hcz7_5
        try clear hcz9_0
        try clear hcz9_1
        try clear hcz9_2
        try clear hcz9_3
        try clear hcz9_4
        try clear hcz9_5
        try clear hfz11_0
        try clear hfz11_1
        try clear hfz11_2
        try clear hfz11_3
        try clear hfz11_4
        try clear hfz11_5
        try clear hfz22_0
        try clear hfz22_1
        try clear hfz22_2
        try clear hfz22_3
        try clear hfz22_4
        try clear hfz22_5
        try clear hfz23_0
        try clear hfz23_1
        try clear hfz23_2
        try clear hfz23_3
        try clear hfz23_4
        try clear hfz23_5
        try clear hfz24_0
        try clear hfz24_1
        try clear hfz24_2
        try clear hfz24_3
        try clear hfz24_4
        try clear hfz24_5
        try clear hfz5_0
        try clear hfz5_1
        try clear hfz5_2
        try clear hfz5_3
        try clear hfz5_4
        try clear hfz5_5
        try clear hfz7_0
        try clear hfz7_1
        try clear hfz7_2
        try clear hfz7_3
        try clear hfz7_4
        try clear hfz7_5
        try clear hfz9_0
        try clear hfz9_1
        try clear hfz9_2
        try clear hfz9_3
        try clear hfz9_4
        try clear hfz9_5
        try clear hx104_0
        try clear hx106_0
        try clear p104
        try clear p106
        try clear p2
        try clear q104
        try clear q106
        obtain ⟨x52_3, rfl, HA, HK3, BK102, HB⟩ := hrel
        cases gk with
        | zero => exact absurd HA.out (by simp [record_May.l1])
        | succ k3 =>
         have H := HA.out
         clear HA
         simp only [record_May.l1] at H
         by_cases c25 : x52_3 < (l0_5.length : Int)
         ·rw [if_pos c25] at H
          have c25b0 : decide (x52_3 < (l0_5.length : Int)) = true := decide_eq_true c25
          clear c25
          by_cases c26 : 0 ≤ x52_3
          ·rw [if_pos c26] at H
           have c26b0 : decide (0 ≤ x52_3) = true := decide_eq_true c26
           clear c26
           by_cases c27 : x52_3 < (l0_5.length : Int)
           ·rw [if_pos c27] at H
            have c27b0 : decide (x52_3 < (l0_5.length : Int)) = true := decide_eq_true c27
            clear c27
            replace H := Option.bind_eq_some_iff.mp H
            obtain ⟨t109, A280, H⟩ := H
            replace H : (if t109 = true then (if x52_3 > 0 then (if 0 ≤ (wrap64 (x52_3 - 1)) then (if (wrap64 (x52_3 - 1)) < (l0_5.length : Int) then (if ((rd_T47 l0_5 x52_3).f0) ≤ ((rd_T47 l0_5 (wrap64 (x52_3 - 1))).f0) then (some false) else ((value_May.f ((rd_T47 l0_5 x52_3).f1.f0) ((rd_T47 l0_5 x52_3).f1.f1) ((rd_T47 l0_5 x52_3).f1.f2)).bind fun t111 => (if t111 = true then (if ((rd_T47 l0_5 x52_3).f1.f0) = 0 then (some false) else (record_May.l1 k3 l0_5 (l0_5.length : Int) (wrap64 (x52_3 + 1)) a0_0 l0_1 a0_2 a0_3 a0_4 l0_5)) else (some false)))) else (none)) else (none)) else ((value_May.f ((rd_T47 l0_5 x52_3).f1.f0) ((rd_T47 l0_5 x52_3).f1.f1) ((rd_T47 l0_5 x52_3).f1.f2)).bind fun t112 => (if t112 = true then (if ((rd_T47 l0_5 x52_3).f1.f0) = 0 then (some false) else (record_May.l1 k3 l0_5 (l0_5.length : Int) (wrap64 (x52_3 + 1)) a0_0 l0_1 a0_2 a0_3 a0_4 l0_5)) else (some false)))) else (some false)) = some r := H
            have A28 := zM A280
            clear A280
            by_cases c29 : t109 = true
            ·subst c29
             have H1 : (if x52_3 > 0 then (if 0 ≤ (wrap64 (x52_3 - 1)) then (if (wrap64 (x52_3 - 1)) < (l0_5.length : Int) then (if ((rd_T47 l0_5 x52_3).f0) ≤ ((rd_T47 l0_5 (wrap64 (x52_3 - 1))).f0) then (some false) else ((value_May.f ((rd_T47 l0_5 x52_3).f1.f0) ((rd_T47 l0_5 x52_3).f1.f1) ((rd_T47 l0_5 x52_3).f1.f2)).bind fun t111 => (if t111 = true then (if ((rd_T47 l0_5 x52_3).f1.f0) = 0 then (some false) else (record_May.l1 k3 l0_5 (l0_5.length : Int) (wrap64 (x52_3 + 1)) a0_0 l0_1 a0_2 a0_3 a0_4 l0_5)) else (some false)))) else (none)) else (none)) else ((value_May.f ((rd_T47 l0_5 x52_3).f1.f0) ((rd_T47 l0_5 x52_3).f1.f1) ((rd_T47 l0_5 x52_3).f1.f2)).bind fun t112 => (if t112 = true then (if ((rd_T47 l0_5 x52_3).f1.f0) = 0 then (some false) else (record_May.l1 k3 l0_5 (l0_5.length : Int) (wrap64 (x52_3 + 1)) a0_0 l0_1 a0_2 a0_3 a0_4 l0_5)) else (some false)))) = some r := by rw [if_pos rfl] at H; exact H
             clear H
             have H := H1
             clear H1
             by_cases c30 : x52_3 > 0
             ·rw [if_pos c30] at H
              have c30b0 : decide (0 < x52_3) = true := decide_eq_true c30
              clear c30
              obtain ⟨ji31, hji31⟩ : ∃ j_ : Int, (wrap64 (x52_3 - 1)) = j_ := ⟨_, rfl⟩
              replace H : (if 0 ≤ (ji31) then (if (ji31) < (l0_5.length : Int) then (if ((rd_T47 l0_5 x52_3).f0) ≤ ((rd_T47 l0_5 (ji31)).f0) then (some false) else ((value_May.f ((rd_T47 l0_5 x52_3).f1.f0) ((rd_T47 l0_5 x52_3).f1.f1) ((rd_T47 l0_5 x52_3).f1.f2)).bind fun t111 => (if t111 = true then (if ((rd_T47 l0_5 x52_3).f1.f0) = 0 then (some false) else (record_May.l1 k3 l0_5 (l0_5.length : Int) (wrap64 (x52_3 + 1)) a0_0 l0_1 a0_2 a0_3 a0_4 l0_5)) else (some false)))) else (none)) else (none)) = some r := by first | (rw [hji31] at H; exact H) | (simp only [hji31] at H ⊢; exact H)
              (try rw [hji31] at A28)
              have hji31w : (IntKind.i64.wrap (x52_3 - 1)) = ji31 := (i64_w _).trans hji31
              by_cases c32 : 0 ≤ (ji31)
              ·rw [if_pos c32] at H
               have c32b0 : decide (0 ≤ (ji31)) = true := decide_eq_true c32
               clear c32
               by_cases c33 : (ji31) < (l0_5.length : Int)
               ·rw [if_pos c33] at H
                have c33b0 : decide ((ji31) < (l0_5.length : Int)) = true := decide_eq_true c33
                clear c33
                by_cases c34 : ((rd_T47 l0_5 x52_3).f0) ≤ ((rd_T47 l0_5 (ji31)).f0)
                ·rw [if_pos c34] at H
                 have c34b0 : decide (((rd_T47 l0_5 x52_3).f0) ≤ ((rd_T47 l0_5 (ji31)).f0)) = true := decide_eq_true c34
                 clear c34
                 obtain rfl := Option.some.inj H
                 have p107 : 0 ≤ (x52_3 : Int) := of_decide_eq_true (by first | (with_reducible assumption) | assumption)
                 have q107 : x52_3 < (l0_5.length : Int) := of_decide_eq_true (by first | (with_reducible assumption) | assumption)
                 obtain ⟨ad107, e107, hx107_0, hx107_1, hx107_2, hx107_3⟩ := at_T47 HR0_5.out x52_3 p107 q107
                 cases e107
                 replace hx107_0 := (HB.out.cell (World.block_lt_of_cell? w _ hx107_0)).trans hx107_0
                 replace hx107_1 := (HB.out.cell (World.block_lt_of_cell? w _ hx107_1)).trans hx107_1
                 replace hx107_2 := (HB.out.cell (World.block_lt_of_cell? w _ hx107_2)).trans hx107_2
                 replace hx107_3 := (HB.out.cell (World.block_lt_of_cell? w _ hx107_3)).trans hx107_3
                 replace p107 := eq_true p107
                 replace q107 := eq_true q107
                 try go_wp2_with (first | ((with_reducible refine gate_dst (N := 6) rfl ?_); (try (refine gate_guard (by rfl) ?_; dsimp only)); refine box_event ?hg (N := 6) ?hd (cs := #[.int .i64 0, .int .i64 0, .int .i64 0, .string (⟨#[]⟩ : ByteArray)]) (t := 47) ?hr ?_; (case hd => rfl); (case hg => rfl); (case hr => first | (go_simp; done) | (go_simp; rfl)); intro gb108 hg w35 hbox hb; have n0_ := zM (zB (g := gb102) (o := .cells #[.bool a0_0, .slice A0_1 l0_1.length c0_1, .int .i64 a0_2, .int .u64 a0_3, .int .u64 a0_4, .slice (some ad107) l0_5.length c0_5] 26 (0, 0)) (by (with_reducible repeat (first | refine zN ?_ _ | refine zD ?_ | refine zA ?_ _)); exact BK102.out) hb); have n1_ := zM (below_step (by repeat (first | (with_reducible first | exact HB.out | apply zL | apply zP | apply zW | refine zS ?_ GE102.out) | exact HB.out)) hb); have n2_ := zM (hbox); have n3_ := zM ((by rw [hg]; exact (below_size (by repeat (first | (with_reducible first | exact HB.out | apply zL | apply zP | apply zW | refine zS ?_ GE102.out) | exact HB.out))) : w.heap.size ≤ gb108)); have n4_ := zM ((by rw [hg]; exact (below_size (by repeat (first | (with_reducible first | exact HB.out | apply zL | apply zP | apply zW | refine zS ?_ GE102.out) | exact HB.out))) : w.heap.size ≤ gb108)); have n5_ := zM ((by rw [hg]; exact Nat.ne_of_lt (blk_lt (g := gb102) (o := .cells #[.bool a0_0, .slice A0_1 l0_1.length c0_1, .int .i64 a0_2, .int .u64 a0_3, .int .u64 a0_4, .slice (some ad107) l0_5.length c0_5] 26 (0, 0)) (by (with_reducible repeat (first | refine zN ?_ _ | refine zD ?_ | refine zA ?_ _)); exact BK102.out)) : gb102 ≠ gb108)); have n6_ := zM ((by rw [hg]; exact Nat.ne_of_gt (blk_lt (g := gb102) (o := .cells #[.bool a0_0, .slice A0_1 l0_1.length c0_1, .int .i64 a0_2, .int .u64 a0_3, .int .u64 a0_4, .slice (some ad107) l0_5.length c0_5] 26 (0, 0)) (by (with_reducible repeat (first | refine zN ?_ _ | refine zD ?_ | refine zA ?_ _)); exact BK102.out)) : gb108 ≠ gb102)); clear BK102; clear HB; have BK102 := n0_; have HB := n1_; have BK108 := n2_; have GW108 := n3_; have GE108 := n4_; have NB102_108 := n5_; have NB108_102 := n6_; clear n0_ n1_ n2_ n3_ n4_ n5_ n6_; clear hb hbox hg; have hnb36 := NB108_102.out; have hnc36 := NB102_108.out; have hcz37_0 : w35.cell? ⟨gb108, 0, none⟩ = some (.int .i64 0) := (zC BK108.out 0).trans rfl; have hcz37_1 : w35.cell? ⟨gb108, 1, none⟩ = some (.int .i64 0) := (zC BK108.out 1).trans rfl; have hcz37_2 : w35.cell? ⟨gb108, 2, none⟩ = some (.int .i64 0) := (zC BK108.out 2).trans rfl; have hcz37_3 : w35.cell? ⟨gb108, 3, none⟩ = some (.string (⟨#[]⟩ : ByteArray)) := (zC BK108.out 3).trans rfl; have hfz37_0 := zF BK108.out 0; have hfz37_1 := zF BK108.out 1; have hfz37_2 := zF BK108.out 2; have hfz37_3 := zF BK108.out 3))
                 have n0_ : Aside0 (((((w35.setCell ⟨gb108, 0, none⟩ (.int .i64 ((rd_T47 l0_5 x52_3).f0))).setCell ⟨gb108, 1, none⟩ (.int .i64 ((rd_T47 l0_5 x52_3).f1.f0))).setCell ⟨gb108, 2, none⟩ (.int .i64 ((rd_T47 l0_5 x52_3).f1.f1))).setCell ⟨gb108, 3, none⟩ (.string ((rd_T47 l0_5 x52_3).f1.f2))).heap[gb102]? = some (.cells #[.bool a0_0, .slice A0_1 l0_1.length c0_1, .int .i64 a0_2, .int .u64 a0_3, .int .u64 a0_4, .slice (some ad107) l0_5.length c0_5] 26 (0, 0))) := ⟨by (with_reducible repeat (first | refine zN ?_ _ | refine zD ?_ | refine zA ?_ _)); refine blk_far ?_ NB102_108.out _; (with_reducible repeat (first | refine zN ?_ _ | refine zD ?_ | refine zA ?_ _)); refine blk_far ?_ NB102_108.out _; (with_reducible repeat (first | refine zN ?_ _ | refine zD ?_ | refine zA ?_ _)); refine blk_far ?_ NB102_108.out _; (with_reducible repeat (first | refine zN ?_ _ | refine zD ?_ | refine zA ?_ _)); refine blk_far ?_ NB102_108.out _; (with_reducible repeat (first | refine zN ?_ _ | refine zD ?_ | refine zA ?_ _)); exact BK102.out⟩
                 have n1_ : Aside0 (((((w35.setCell ⟨gb108, 0, none⟩ (.int .i64 ((rd_T47 l0_5 x52_3).f0))).setCell ⟨gb108, 1, none⟩ (.int .i64 ((rd_T47 l0_5 x52_3).f1.f0))).setCell ⟨gb108, 2, none⟩ (.int .i64 ((rd_T47 l0_5 x52_3).f1.f1))).setCell ⟨gb108, 3, none⟩ (.string ((rd_T47 l0_5 x52_3).f1.f2))).heap[gb108]? = some (.cells #[.int .i64 ((rd_T47 l0_5 x52_3).f0), .int .i64 ((rd_T47 l0_5 x52_3).f1.f0), .int .i64 ((rd_T47 l0_5 x52_3).f1.f1), .string ((rd_T47 l0_5 x52_3).f1.f2)] 47 (0, 0))) := ⟨by (with_reducible repeat (first | refine zN ?_ _ | refine zD ?_ | refine zA ?_ _)); refine blk_put (cs := #[.int .i64 ((rd_T47 l0_5 x52_3).f0), .int .i64 ((rd_T47 l0_5 x52_3).f1.f0), .int .i64 ((rd_T47 l0_5 x52_3).f1.f1), .string (⟨#[]⟩ : ByteArray)]) ?_ 3 _ rfl; (with_reducible repeat (first | refine zN ?_ _ | refine zD ?_ | refine zA ?_ _)); refine blk_put (cs := #[.int .i64 ((rd_T47 l0_5 x52_3).f0), .int .i64 ((rd_T47 l0_5 x52_3).f1.f0), .int .i64 0, .string (⟨#[]⟩ : ByteArray)]) ?_ 2 _ rfl; (with_reducible repeat (first | refine zN ?_ _ | refine zD ?_ | refine zA ?_ _)); refine blk_put (cs := #[.int .i64 ((rd_T47 l0_5 x52_3).f0), .int .i64 0, .int .i64 0, .string (⟨#[]⟩ : ByteArray)]) ?_ 1 _ rfl; (with_reducible repeat (first | refine zN ?_ _ | refine zD ?_ | refine zA ?_ _)); refine blk_put (cs := #[.int .i64 0, .int .i64 0, .int .i64 0, .string (⟨#[]⟩ : ByteArray)]) ?_ 0 _ rfl; (with_reducible repeat (first | refine zN ?_ _ | refine zD ?_ | refine zA ?_ _)); exact BK108.out⟩
                 have n2_ : Aside0 (Below w.heap.size w ((((w35.setCell ⟨gb108, 0, none⟩ (.int .i64 ((rd_T47 l0_5 x52_3).f0))).setCell ⟨gb108, 1, none⟩ (.int .i64 ((rd_T47 l0_5 x52_3).f1.f0))).setCell ⟨gb108, 2, none⟩ (.int .i64 ((rd_T47 l0_5 x52_3).f1.f1))).setCell ⟨gb108, 3, none⟩ (.string ((rd_T47 l0_5 x52_3).f1.f2)))) := ⟨by repeat (first | (with_reducible first | exact HB.out | apply zL | apply zP | apply zW | refine zS ?_ GE102.out | refine zS ?_ GE108.out) | exact HB.out)⟩
                 (try clear BK102)
                 (try clear BK108)
                 (try clear HB)
                 generalize ((((w35.setCell ⟨gb108, 0, none⟩ (.int .i64 ((rd_T47 l0_5 x52_3).f0))).setCell ⟨gb108, 1, none⟩ (.int .i64 ((rd_T47 l0_5 x52_3).f1.f0))).setCell ⟨gb108, 2, none⟩ (.int .i64 ((rd_T47 l0_5 x52_3).f1.f1))).setCell ⟨gb108, 3, none⟩ (.string ((rd_T47 l0_5 x52_3).f1.f2))) = w38 at n0_ n1_ n2_ ⊢
                 have BK102 := n0_
                 have BK108 := n1_
                 have HB := n2_
                 clear n0_ n1_ n2_
                 have n0_ := zM (zD BK102.out)
                 have n1_ := zM (zD BK108.out)
                 have n2_ := zM (zW HB.out)
                 clear BK102
                 clear BK108
                 clear HB
                 have BK102 := n0_
                 have BK108 := n1_
                 have HB := n2_
                 clear n0_ n1_ n2_
                 have p110 : 0 ≤ ((ji31) : Int) := of_decide_eq_true (by first | (with_reducible assumption) | assumption)
                 have q110 : (ji31) < (l0_5.length : Int) := of_decide_eq_true (by first | (with_reducible assumption) | assumption)
                 obtain ⟨ad110, e110, hx110_0, hx110_1, hx110_2, hx110_3⟩ := at_T47 HR0_5.out (ji31) p110 q110
                 have hw110_3 := hx110_3
                 have hw110_2 := hx110_2
                 have hw110_1 := hx110_1
                 have hw110_0 := hx110_0
                 obtain rfl : ad107 = ad110 := (by injection e110)
                 replace hx110_0 := (HB.out.cell (World.block_lt_of_cell? w _ hx110_0)).trans hx110_0
                 replace hx110_1 := (HB.out.cell (World.block_lt_of_cell? w _ hx110_1)).trans hx110_1
                 replace hx110_2 := (HB.out.cell (World.block_lt_of_cell? w _ hx110_2)).trans hx110_2
                 replace hx110_3 := (HB.out.cell (World.block_lt_of_cell? w _ hx110_3)).trans hx110_3
                 replace p110 := eq_true p110
                 replace q110 := eq_true q110
                 refine start_ (n := 32) (S := fun w' => w'.cell? ⟨gb108, 0, none⟩ = some (.int .i64 ((rd_T47 l0_5 x52_3).f0)) ∧ w'.cell? ⟨gb108, 1, none⟩ = some (.int .i64 ((rd_T47 l0_5 x52_3).f1.f0)) ∧ w'.cell? ⟨gb108, 2, none⟩ = some (.int .i64 ((rd_T47 l0_5 x52_3).f1.f1)) ∧ w'.cell? ⟨gb108, 3, none⟩ = some (.string ((rd_T47 l0_5 x52_3).f1.f2)) ∧ w'.cell? ⟨gb102, 0, none⟩ = some (.bool a0_0) ∧ w'.cell? ⟨gb102, 1, none⟩ = some (.slice A0_1 l0_1.length c0_1) ∧ w'.cell? ⟨gb102, 2, none⟩ = some (.int .i64 a0_2) ∧ w'.cell? ⟨gb102, 3, none⟩ = some (.int .u64 a0_3) ∧ w'.cell? ⟨gb102, 4, none⟩ = some (.int .u64 a0_4) ∧ w'.cell? ⟨gb102, 5, none⟩ = some (.slice (some ad107) l0_5.length c0_5) ∧ w'.cell? (ad107.add (((ji31)).toNat * 4)) = some (.int .i64 ((rd_T47 l0_5 (ji31)).f0)) ∧ w'.cell? ⟨(ad107.add (((ji31)).toNat * 4)).block, (ad107.add (((ji31)).toNat * 4)).off + 1, none⟩ = some (.int .i64 ((rd_T47 l0_5 (ji31)).f1.f0)) ∧ w'.cell? ⟨(ad107.add (((ji31)).toNat * 4)).block, (ad107.add (((ji31)).toNat * 4)).off + 2, none⟩ = some (.int .i64 ((rd_T47 l0_5 (ji31)).f1.f1)) ∧ w'.cell? ⟨(ad107.add (((ji31)).toNat * 4)).block, (ad107.add (((ji31)).toNat * 4)).off + 3, none⟩ = some (.string ((rd_T47 l0_5 (ji31)).f1.f2))) (ds := []) zb0 (by kernel_rfl) rfl rfl ⟨(zC BK108.out 0).trans rfl, (zC BK108.out 1).trans rfl, (zC BK108.out 2).trans rfl, (zC BK108.out 3).trans rfl, (zC BK102.out 0).trans rfl, (zC BK102.out 1).trans rfl, (zC BK102.out 2).trans rfl, (zC BK102.out 3).trans rfl, (zC BK102.out 4).trans rfl, (zC BK102.out 5).trans rfl, ((HB.out.cell (World.block_lt_of_cell? w _ hw110_0)).trans hw110_0), ((HB.out.cell (World.block_lt_of_cell? w _ hw110_1)).trans hw110_1), ((HB.out.cell (World.block_lt_of_cell? w _ hw110_2)).trans hw110_2), ((HB.out.cell (World.block_lt_of_cell? w _ hw110_3)).trans hw110_3)⟩ (fun hHeld => ?_); refine with_tabW record_May.tab12 record_May.bits12 (fun HT_ HW_ => ?_)
                 generalize w38.drew = w39 at BK102 BK108 HB hx110_0 hx110_1 hx110_2 hx110_3 hHeld ⊢
                 refine pure_ (i := 0) (N := some 57) (v := ?_) (a' := ?_) zb1 rfl rfl (any_of HT_.out (by kernel_rfl)) (fun _ _ _ h => h) (Or.inl ⟨by rfl, ?_⟩) ?_ ?_
                 rotate_left
                 ·intro w'
                  go_simp
                  with_reducible rfl
                 rotate_left
                 ·simp only [Act.put, zT, zZ, zU, i64_w, i32_w]
                  rfl
                 refine take_ (i := 1) (N := some 58) (v := ?_) (a' := ?_) zb2 rfl rfl (take_ofW HT_.out HW_.out (by kernel_rfl)) (fun _ _ _ h => h) (Or.inl ⟨by rfl, ?_⟩) hHeld ?_ ?_
                 rotate_left
                 ·rintro w' ⟨s0, s1, s2, s3, s4, s5, s6, s7, s8, s9, s10, s11, s12, s13⟩
                  go_simp
                  with_reducible rfl
                 rotate_left
                 ·simp only [Act.put, zT, zZ, zU, i64_w, i32_w]
                  rfl
                 refine one_ (i := 2) (N := some 59) zb3 rfl rfl (one_of HT_.out (by kernel_rfl)) (by decide) (fun K hK => ?_)
                 refine goes_ Tryd.func32 (by kernel_rfl) rfl #[.int .i64 ((rd_T47 l0_5 x52_3).f0)] (by rfl) rfl rfl (by (try simp only [zY, List.map_cons, List.map_nil]); first | done | rfl | (simp only [zV, zX]; rfl)) ?_
                 with_reducible refine (record_number.calls ((rd_T47 l0_5 x52_3).f0) true _ A28.out).mono ?_
                 rintro e w' ⟨rfl, ⟨nd, rfl⟩⟩
                 refine ⟨_, rfl, ?_⟩
                 refine hK.out _ _ ⟨(zC BK108.out 0).trans rfl, (zC BK108.out 1).trans rfl, (zC BK108.out 2).trans rfl, (zC BK108.out 3).trans rfl, (zC BK102.out 0).trans rfl, (zC BK102.out 1).trans rfl, (zC BK102.out 2).trans rfl, (zC BK102.out 3).trans rfl, (zC BK102.out 4).trans rfl, (zC BK102.out 5).trans rfl, ((HB.out.cell (World.block_lt_of_cell? w _ hw110_0)).trans hw110_0), ((HB.out.cell (World.block_lt_of_cell? w _ hw110_1)).trans hw110_1), ((HB.out.cell (World.block_lt_of_cell? w _ hw110_2)).trans hw110_2), ((HB.out.cell (World.block_lt_of_cell? w _ hw110_3)).trans hw110_3)⟩ (fun hHeld => ?_)
                 clear hK K
                 refine norm_ (a' := ?_) ?_ ?_
                 rotate_left
                 ·show Act.put _ (some 59) _ = _
                  simp only [Act.put, zT, zZ, zU, i64_w, i32_w]
                  rfl
                 refine pure_ (i := 3) (N := some 60) (v := ?_) (a' := ?_) zb4 rfl rfl (any_of HT_.out (by kernel_rfl)) (fun _ _ _ h => h) (Or.inl ⟨by rfl, ?_⟩) ?_ ?_
                 rotate_left
                 ·intro w'
                  go_simp
                  with_reducible rfl
                 rotate_left
                 ·simp only [Act.put, zT, zZ, zU, i64_w, i32_w]
                  rfl
                 refine pure_ (i := 4) (N := some 61) (v := ?_) (a' := ?_) zb5 rfl rfl (any_of HT_.out (by kernel_rfl)) (fun _ _ _ h => h) (Or.inl ⟨by rfl, ?_⟩) ?_ ?_
                 rotate_left
                 ·intro w'
                  go_simp
                  with_reducible rfl
                 rotate_left
                 ·simp only [Act.put, zT, zZ, zU, i64_w, i32_w]
                  rfl
                 refine pure_ (i := 5) (N := some 62) (v := ?_) (a' := ?_) zb6 rfl rfl (any_of HT_.out (by kernel_rfl)) (fun _ _ _ h => h) (Or.inl ⟨by rfl, ?_⟩) ?_ ?_
                 rotate_left
                 ·intro w'
                  go_simp
                  with_reducible rfl
                 rotate_left
                 ·simp only [Act.put, zT, zZ, zU, i64_w, i32_w]
                  rfl
                 refine pure_ (i := 6) (N := some 63) (v := ?_) (a' := ?_) zb7 rfl rfl (any_of HT_.out (by kernel_rfl)) (fun _ _ _ h => h) (Or.inl ⟨by rfl, ?_⟩) ?_ ?_
                 rotate_left
                 ·intro w'
                  go_simp
                  with_reducible rfl
                 rotate_left
                 ·simp only [Act.put, zT, zZ, zU, i64_w, i32_w]
                  rfl
                 refine pure_ (i := 7) (N := some 64) (v := ?_) (a' := ?_) zb8 rfl rfl (any_of HT_.out (by kernel_rfl)) (fun _ _ _ h => h) (Or.inl ⟨by rfl, ?_⟩) ?_ ?_
                 rotate_left
                 ·intro w'
                  go_simp
                  with_reducible rfl
                 rotate_left
                 ·simp only [Act.put, zT, zZ, zU, i64_w, i32_w]
                  rfl
                 refine pure_ (i := 8) (N := some 65) (v := ?_) (a' := ?_) zb9 rfl rfl (any_of HT_.out (by kernel_rfl)) (fun _ _ _ h => h) (Or.inl ⟨by rfl, ?_⟩) ?_ ?_
                 rotate_left
                 ·intro w'
                  go_simp
                  with_reducible rfl
                 rotate_left
                 ·simp only [Act.put, zT, zZ, zU, i64_w, i32_w]
                  rfl
                 refine pure_ (i := 10) (N := some 67) (v := ?_) (a' := ?_) zb10 rfl rfl (any_of HT_.out (by kernel_rfl)) (fun _ _ _ h => h) (Or.inl ⟨by rfl, ?_⟩) ?_ ?_
                 rotate_left
                 ·intro w'
                  go_simp
                  with_reducible rfl
                 rotate_left
                 ·simp only [Act.put, zT, zZ, zU, i64_w, i32_w]
                  rfl
                 refine pure_ (i := 12) (N := some 69) (v := ?_) (a' := ?_) zb11 rfl rfl (any_of HT_.out (by kernel_rfl)) (fun _ _ _ h => h) (Or.inl ⟨by rfl, ?_⟩) ?_ ?_
                 rotate_left
                 ·intro w'
                  go_simp
                  with_reducible rfl
                 rotate_left
                 ·simp only [Act.put, zT, zZ, zU, i64_w, i32_w]
                  rfl
                 refine pure_ (i := 13) (N := some 70) (v := ?_) (a' := ?_) zb12 rfl rfl (any_of HT_.out (by kernel_rfl)) (fun _ _ _ h => h) (Or.inl ⟨by rfl, ?_⟩) ?_ ?_
                 rotate_left
                 ·intro w'
                  go_simp
                  with_reducible rfl
                 rotate_left
                 ·simp only [Act.put, zT, zZ, zU, i64_w, i32_w]
                  rfl
                 refine take_ (i := 9) (N := some 66) (v := ?_) (a' := ?_) zb13 rfl rfl (take_ofW HT_.out HW_.out (by kernel_rfl)) (fun _ _ _ h => h) (Or.inl ⟨by rfl, ?_⟩) hHeld ?_ ?_
                 rotate_left
                 ·rintro w' ⟨s0, s1, s2, s3, s4, s5, s6, s7, s8, s9, s10, s11, s12, s13⟩
                  go_simp
                  with_reducible rfl
                 rotate_left
                 ·simp only [Act.put, zT, zZ, zU, i64_w, i32_w]
                  rfl
                 refine take_ (i := 11) (N := some 68) (v := ?_) (a' := ?_) zb14 rfl rfl (take_ofW HT_.out HW_.out (by kernel_rfl)) (fun _ _ _ h => h) (Or.inl ⟨by rfl, ?_⟩) hHeld ?_ ?_
                 rotate_left
                 ·rintro w' ⟨s0, s1, s2, s3, s4, s5, s6, s7, s8, s9, s10, s11, s12, s13⟩
                  go_simp
                  with_reducible rfl
                 rotate_left
                 ·simp only [Act.put, zT, zZ, zU, i64_w, i32_w]
                  rfl
                 refine pure_ (i := 14) (N := some 71) (v := ?_) (a' := ?_) zb15 rfl rfl (any_of HT_.out (by kernel_rfl)) (fun _ _ _ h => h) (Or.inl ⟨by rfl, ?_⟩) ?_ ?_
                 rotate_left
                 ·intro w'
                  go_simp
                  with_reducible rfl
                 rotate_left
                 ·simp only [Act.put, zT, zZ, zU, i64_w, i32_w]
                  rfl
                 refine pure_ (i := 15) (N := some 72) (v := ?_) (a' := ?_) zb16 rfl rfl (any_of HT_.out (by kernel_rfl)) (fun _ _ _ h => h) (Or.inl ⟨by rfl, ?_⟩) ?_ ?_
                 rotate_left
                 ·intro w'
                  go_simp
                  with_reducible rfl
                 rotate_left
                 ·simp only [Act.put, zT, zZ, zU, i64_w, i32_w]
                  rfl
                 refine take_ (i := 16) (N := some 73) (v := ?_) (a' := ?_) zb17 rfl rfl (take_ofW HT_.out HW_.out (by kernel_rfl)) (fun _ _ _ h => h) (Or.inl ⟨by rfl, ?_⟩) hHeld ?_ ?_
                 rotate_left
                 ·rintro w' ⟨s0, s1, s2, s3, s4, s5, s6, s7, s8, s9, s10, s11, s12, s13⟩
                  go_simp
                  with_reducible rfl
                 rotate_left
                 ·simp only [Act.put, zT, zZ, zU, i64_w, i32_w]
                  rfl
                 refine pure_ (i := 17) (N := some 74) (v := ?_) (a' := ?_) zb18 rfl rfl (any_of HT_.out (by kernel_rfl)) (fun _ _ _ h => h) (Or.inl ⟨by rfl, ?_⟩) ?_ ?_
                 rotate_left
                 ·intro w'
                  go_simp
                  with_reducible rfl
                 rotate_left
                 ·simp only [Act.put, zT, zZ, zU, i64_w, i32_w]
                  rfl
                 refine pure_ (i := 18) (N := some 75) (v := ?_) (a' := ?_) zb19 rfl rfl (any_of HT_.out (by kernel_rfl)) (fun _ _ _ h => h) (Or.inl ⟨by rfl, ?_⟩) ?_ ?_
                 rotate_left
                 ·intro w'
                  go_simp
                  with_reducible rfl
                 rotate_left
                 ·simp only [Act.put, zT, zZ, zU, i64_w, i32_w]
                  rfl
                 refine pure_ (i := 19) (N := some 76) (v := ?_) (a' := ?_) zb20 rfl rfl (any_of HT_.out (by kernel_rfl)) (fun _ _ _ h => h) (Or.inl ⟨by rfl, ?_⟩) ?_ ?_
                 rotate_left
                 ·intro w'
                  go_simp
                  with_reducible rfl
                 rotate_left
                 ·simp only [Act.put, zT, zZ, zU, i64_w, i32_w]
                  rfl
                 refine pure_ (i := 20) (N := some 77) (v := ?_) (a' := ?_) zb21 rfl rfl (any_of HT_.out (by kernel_rfl)) (fun _ _ _ h => h) (Or.inl ⟨by rfl, ?_⟩) ?_ ?_
                 rotate_left
                 ·intro w'
                  go_simp
                  with_reducible rfl
                 rotate_left
                 ·simp only [Act.put, zT, zZ, zU, i64_w, i32_w]
                  rfl
                 refine pure_ (i := 21) (N := some 78) (v := undef) (a' := ?_) zb22 rfl rfl (any_of HT_.out (by kernel_rfl)) (fun _ _ _ h => h) (Or.inr ⟨by rfl, rfl⟩) ?_ ?_
                 rotate_left
                 ·simp only [Act.put, zT, zZ, zU, i64_w, i32_w]
                  rfl
                 refine pure_ (i := 22) (N := some 79) (v := undef) (a' := ?_) zb23 rfl rfl (any_of HT_.out (by kernel_rfl)) (fun _ _ _ h => h) (Or.inr ⟨by rfl, rfl⟩) ?_ ?_
                 rotate_left
                 ·simp only [Act.put, zT, zZ, zU, i64_w, i32_w]
                  rfl
                 refine pure_ (i := 23) (N := some 80) (v := undef) (a' := ?_) zb24 rfl rfl (any_of HT_.out (by kernel_rfl)) (fun _ _ _ h => h) (Or.inr ⟨by rfl, rfl⟩) ?_ ?_
                 rotate_left
                 ·simp only [Act.put, zT, zZ, zU, i64_w, i32_w]
                  rfl
                 refine pure_ (i := 24) (N := some 81) (v := undef) (a' := ?_) zb25 rfl rfl (any_of HT_.out (by kernel_rfl)) (fun _ _ _ h => h) (Or.inr ⟨by rfl, rfl⟩) ?_ ?_
                 rotate_left
                 ·simp only [Act.put, zT, zZ, zU, i64_w, i32_w]
                  rfl
                 refine pure_ (i := 25) (N := some 82) (v := ?_) (a' := ?_) zb26 rfl rfl (any_of HT_.out (by kernel_rfl)) (fun _ _ _ h => h) (Or.inl ⟨by rfl, ?_⟩) ?_ ?_
                 rotate_left
                 ·intro w'
                  go_simp
                  with_reducible rfl
                 rotate_left
                 ·simp only [Act.put, zT, zZ, zU, i64_w, i32_w]
                  rfl
                 refine pure_ (i := 26) (N := some 83) (v := ?_) (a' := ?_) zb27 rfl rfl (any_of HT_.out (by kernel_rfl)) (fun _ _ _ h => h) (Or.inl ⟨by rfl, ?_⟩) ?_ ?_
                 rotate_left
                 ·intro w'
                  go_simp
                  with_reducible rfl
                 rotate_left
                 ·simp only [Act.put, zT, zZ, zU, i64_w, i32_w]
                  rfl
                 refine pure_ (i := 27) (N := some 84) (v := undef) (a' := ?_) zb28 rfl rfl (any_of HT_.out (by kernel_rfl)) (fun _ _ _ h => h) (Or.inr ⟨by rfl, rfl⟩) ?_ ?_
                 rotate_left
                 ·simp only [Act.put, zT, zZ, zU, i64_w, i32_w]
                  rfl
                 refine pure_ (i := 28) (N := some 85) (v := undef) (a' := ?_) zb29 rfl rfl (any_of HT_.out (by kernel_rfl)) (fun _ _ _ h => h) (Or.inr ⟨by rfl, rfl⟩) ?_ ?_
                 rotate_left
                 ·simp only [Act.put, zT, zZ, zU, i64_w, i32_w]
                  rfl
                 refine pure_ (i := 29) (N := some 86) (v := undef) (a' := ?_) zb30 rfl rfl (any_of HT_.out (by kernel_rfl)) (fun _ _ _ h => h) (Or.inr ⟨by rfl, rfl⟩) ?_ ?_
                 rotate_left
                 ·simp only [Act.put, zT, zZ, zU, i64_w, i32_w]
                  rfl
                 refine pure_ (i := 30) (N := some 87) (v := undef) (a' := ?_) zb31 rfl rfl (any_of HT_.out (by kernel_rfl)) (fun _ _ _ h => h) (Or.inr ⟨by rfl, rfl⟩) ?_ ?_
                 rotate_left
                 ·simp only [Act.put, zT, zZ, zU, i64_w, i32_w]
                  rfl
                 refine pure_ (i := 31) (N := some 88) (v := ?_) (a' := ?_) zb32 rfl rfl (any_of HT_.out (by kernel_rfl)) (fun _ _ _ h => h) (Or.inl ⟨by rfl, ?_⟩) ?_ ?_
                 rotate_left
                 ·intro w'
                  go_simp
                  with_reducible rfl
                 rotate_left
                 ·simp only [Act.put, zT, zZ, zU, i64_w, i32_w]
                  rfl
                 refine done_ (done_of HT_.out (by kernel_rfl)) ?_
                 try go_wp2
                 go_ret
                 exact ⟨by first | rfl | (simp [errW_none, errW_some] <;> rfl) | (simp only [← hji31]; first | rfl | (simp [errW_none, errW_some] <;> rfl)) | (simp [*, errW_none, errW_some] <;> rfl), by repeat (first | (with_reducible first | exact HB.out | apply zL | apply zP | apply zW | refine zS ?_ GE102.out | refine zS ?_ GE108.out) | exact HB.out)⟩
                ·rw [if_neg c34] at H
                 have c34b0 : decide (((rd_T47 l0_5 x52_3).f0) ≤ ((rd_T47 l0_5 (ji31)).f0)) = false := decide_eq_false c34
                 clear c34
                 replace H := Option.bind_eq_some_iff.mp H
                 obtain ⟨t111, A400, H⟩ := H
                 replace H : (if t111 = true then (if ((rd_T47 l0_5 x52_3).f1.f0) = 0 then (some false) else (record_May.l1 k3 l0_5 (l0_5.length : Int) (wrap64 (x52_3 + 1)) a0_0 l0_1 a0_2 a0_3 a0_4 l0_5)) else (some false)) = some r := H
                 have A40 := zM A400
                 clear A400
                 by_cases c41 : t111 = true
                 ·subst c41
                  have H1 : (if ((rd_T47 l0_5 x52_3).f1.f0) = 0 then (some false) else (record_May.l1 k3 l0_5 (l0_5.length : Int) (wrap64 (x52_3 + 1)) a0_0 l0_1 a0_2 a0_3 a0_4 l0_5)) = some r := by rw [if_pos rfl] at H; exact H
                  clear H
                  have H := H1
                  clear H1
                  by_cases c42 : ((rd_T47 l0_5 x52_3).f1.f0) = 0
                  ·rw [if_pos c42] at H
                   have c42b0 : (((rd_T47 l0_5 x52_3).f1.f0) == 0) = true := beq_iff_eq.mpr c42
                   have c42b1 : (((rd_T47 l0_5 x52_3).f1.f0) != 0) = false := bne_eq_false_iff_eq.mpr c42
                   clear c42
                   obtain rfl := Option.some.inj H
                   have p107 : 0 ≤ (x52_3 : Int) := of_decide_eq_true (by first | (with_reducible assumption) | assumption)
                   have q107 : x52_3 < (l0_5.length : Int) := of_decide_eq_true (by first | (with_reducible assumption) | assumption)
                   obtain ⟨ad107, e107, hx107_0, hx107_1, hx107_2, hx107_3⟩ := at_T47 HR0_5.out x52_3 p107 q107
                   cases e107
                   replace hx107_0 := (HB.out.cell (World.block_lt_of_cell? w _ hx107_0)).trans hx107_0
                   replace hx107_1 := (HB.out.cell (World.block_lt_of_cell? w _ hx107_1)).trans hx107_1
                   replace hx107_2 := (HB.out.cell (World.block_lt_of_cell? w _ hx107_2)).trans hx107_2
                   replace hx107_3 := (HB.out.cell (World.block_lt_of_cell? w _ hx107_3)).trans hx107_3
                   replace p107 := eq_true p107
                   replace q107 := eq_true q107
                   try go_wp2_with (first | ((with_reducible refine gate_dst (N := 6) rfl ?_); (try (refine gate_guard (by rfl) ?_; dsimp only)); refine box_event ?hg (N := 6) ?hd (cs := #[.int .i64 0, .int .i64 0, .int .i64 0, .string (⟨#[]⟩ : ByteArray)]) (t := 47) ?hr ?_; (case hd => rfl); (case hg => rfl); (case hr => first | (go_simp; done) | (go_simp; rfl)); intro gb108 hg w43 hbox hb; have n0_ := zM (zB (g := gb102) (o := .cells #[.bool a0_0, .slice A0_1 l0_1.length c0_1, .int .i64 a0_2, .int .u64 a0_3, .int .u64 a0_4, .slice (some ad107) l0_5.length c0_5] 26 (0, 0)) (by (with_reducible repeat (first | refine zN ?_ _ | refine zD ?_ | refine zA ?_ _)); exact BK102.out) hb); have n1_ := zM (below_step (by repeat (first | (with_reducible first | exact HB.out | apply zL | apply zP | apply zW | refine zS ?_ GE102.out) | exact HB.out)) hb); have n2_ := zM (hbox); have n3_ := zM ((by rw [hg]; exact (below_size (by repeat (first | (with_reducible first | exact HB.out | apply zL | apply zP | apply zW | refine zS ?_ GE102.out) | exact HB.out))) : w.heap.size ≤ gb108)); have n4_ := zM ((by rw [hg]; exact (below_size (by repeat (first | (with_reducible first | exact HB.out | apply zL | apply zP | apply zW | refine zS ?_ GE102.out) | exact HB.out))) : w.heap.size ≤ gb108)); have n5_ := zM ((by rw [hg]; exact Nat.ne_of_lt (blk_lt (g := gb102) (o := .cells #[.bool a0_0, .slice A0_1 l0_1.length c0_1, .int .i64 a0_2, .int .u64 a0_3, .int .u64 a0_4, .slice (some ad107) l0_5.length c0_5] 26 (0, 0)) (by (with_reducible repeat (first | refine zN ?_ _ | refine zD ?_ | refine zA ?_ _)); exact BK102.out)) : gb102 ≠ gb108)); have n6_ := zM ((by rw [hg]; exact Nat.ne_of_gt (blk_lt (g := gb102) (o := .cells #[.bool a0_0, .slice A0_1 l0_1.length c0_1, .int .i64 a0_2, .int .u64 a0_3, .int .u64 a0_4, .slice (some ad107) l0_5.length c0_5] 26 (0, 0)) (by (with_reducible repeat (first | refine zN ?_ _ | refine zD ?_ | refine zA ?_ _)); exact BK102.out)) : gb108 ≠ gb102)); clear BK102; clear HB; have BK102 := n0_; have HB := n1_; have BK108 := n2_; have GW108 := n3_; have GE108 := n4_; have NB102_108 := n5_; have NB108_102 := n6_; clear n0_ n1_ n2_ n3_ n4_ n5_ n6_; clear hb hbox hg; have hnb44 := NB108_102.out; have hnc44 := NB102_108.out; have hcz45_0 : w43.cell? ⟨gb108, 0, none⟩ = some (.int .i64 0) := (zC BK108.out 0).trans rfl; have hcz45_1 : w43.cell? ⟨gb108, 1, none⟩ = some (.int .i64 0) := (zC BK108.out 1).trans rfl; have hcz45_2 : w43.cell? ⟨gb108, 2, none⟩ = some (.int .i64 0) := (zC BK108.out 2).trans rfl; have hcz45_3 : w43.cell? ⟨gb108, 3, none⟩ = some (.string (⟨#[]⟩ : ByteArray)) := (zC BK108.out 3).trans rfl; have hfz45_0 := zF BK108.out 0; have hfz45_1 := zF BK108.out 1; have hfz45_2 := zF BK108.out 2; have hfz45_3 := zF BK108.out 3))
                   have n0_ : Aside0 (((((w43.setCell ⟨gb108, 0, none⟩ (.int .i64 ((rd_T47 l0_5 x52_3).f0))).setCell ⟨gb108, 1, none⟩ (.int .i64 ((rd_T47 l0_5 x52_3).f1.f0))).setCell ⟨gb108, 2, none⟩ (.int .i64 ((rd_T47 l0_5 x52_3).f1.f1))).setCell ⟨gb108, 3, none⟩ (.string ((rd_T47 l0_5 x52_3).f1.f2))).heap[gb102]? = some (.cells #[.bool a0_0, .slice A0_1 l0_1.length c0_1, .int .i64 a0_2, .int .u64 a0_3, .int .u64 a0_4, .slice (some ad107) l0_5.length c0_5] 26 (0, 0))) := ⟨by (with_reducible repeat (first | refine zN ?_ _ | refine zD ?_ | refine zA ?_ _)); refine blk_far ?_ NB102_108.out _; (with_reducible repeat (first | refine zN ?_ _ | refine zD ?_ | refine zA ?_ _)); refine blk_far ?_ NB102_108.out _; (with_reducible repeat (first | refine zN ?_ _ | refine zD ?_ | refine zA ?_ _)); refine blk_far ?_ NB102_108.out _; (with_reducible repeat (first | refine zN ?_ _ | refine zD ?_ | refine zA ?_ _)); refine blk_far ?_ NB102_108.out _; (with_reducible repeat (first | refine zN ?_ _ | refine zD ?_ | refine zA ?_ _)); exact BK102.out⟩
                   have n1_ : Aside0 (((((w43.setCell ⟨gb108, 0, none⟩ (.int .i64 ((rd_T47 l0_5 x52_3).f0))).setCell ⟨gb108, 1, none⟩ (.int .i64 ((rd_T47 l0_5 x52_3).f1.f0))).setCell ⟨gb108, 2, none⟩ (.int .i64 ((rd_T47 l0_5 x52_3).f1.f1))).setCell ⟨gb108, 3, none⟩ (.string ((rd_T47 l0_5 x52_3).f1.f2))).heap[gb108]? = some (.cells #[.int .i64 ((rd_T47 l0_5 x52_3).f0), .int .i64 ((rd_T47 l0_5 x52_3).f1.f0), .int .i64 ((rd_T47 l0_5 x52_3).f1.f1), .string ((rd_T47 l0_5 x52_3).f1.f2)] 47 (0, 0))) := ⟨by (with_reducible repeat (first | refine zN ?_ _ | refine zD ?_ | refine zA ?_ _)); refine blk_put (cs := #[.int .i64 ((rd_T47 l0_5 x52_3).f0), .int .i64 ((rd_T47 l0_5 x52_3).f1.f0), .int .i64 ((rd_T47 l0_5 x52_3).f1.f1), .string (⟨#[]⟩ : ByteArray)]) ?_ 3 _ rfl; (with_reducible repeat (first | refine zN ?_ _ | refine zD ?_ | refine zA ?_ _)); refine blk_put (cs := #[.int .i64 ((rd_T47 l0_5 x52_3).f0), .int .i64 ((rd_T47 l0_5 x52_3).f1.f0), .int .i64 0, .string (⟨#[]⟩ : ByteArray)]) ?_ 2 _ rfl; (with_reducible repeat (first | refine zN ?_ _ | refine zD ?_ | refine zA ?_ _)); refine blk_put (cs := #[.int .i64 ((rd_T47 l0_5 x52_3).f0), .int .i64 0, .int .i64 0, .string (⟨#[]⟩ : ByteArray)]) ?_ 1 _ rfl; (with_reducible repeat (first | refine zN ?_ _ | refine zD ?_ | refine zA ?_ _)); refine blk_put (cs := #[.int .i64 0, .int .i64 0, .int .i64 0, .string (⟨#[]⟩ : ByteArray)]) ?_ 0 _ rfl; (with_reducible repeat (first | refine zN ?_ _ | refine zD ?_ | refine zA ?_ _)); exact BK108.out⟩
                   have n2_ : Aside0 (Below w.heap.size w ((((w43.setCell ⟨gb108, 0, none⟩ (.int .i64 ((rd_T47 l0_5 x52_3).f0))).setCell ⟨gb108, 1, none⟩ (.int .i64 ((rd_T47 l0_5 x52_3).f1.f0))).setCell ⟨gb108, 2, none⟩ (.int .i64 ((rd_T47 l0_5 x52_3).f1.f1))).setCell ⟨gb108, 3, none⟩ (.string ((rd_T47 l0_5 x52_3).f1.f2)))) := ⟨by repeat (first | (with_reducible first | exact HB.out | apply zL | apply zP | apply zW | refine zS ?_ GE102.out | refine zS ?_ GE108.out) | exact HB.out)⟩
                   (try clear BK102)
                   (try clear BK108)
                   (try clear HB)
                   generalize ((((w43.setCell ⟨gb108, 0, none⟩ (.int .i64 ((rd_T47 l0_5 x52_3).f0))).setCell ⟨gb108, 1, none⟩ (.int .i64 ((rd_T47 l0_5 x52_3).f1.f0))).setCell ⟨gb108, 2, none⟩ (.int .i64 ((rd_T47 l0_5 x52_3).f1.f1))).setCell ⟨gb108, 3, none⟩ (.string ((rd_T47 l0_5 x52_3).f1.f2))) = w46 at n0_ n1_ n2_ ⊢
                   have BK102 := n0_
                   have BK108 := n1_
                   have HB := n2_
                   clear n0_ n1_ n2_
                   have n0_ := zM (zD BK102.out)
                   have n1_ := zM (zD BK108.out)
                   have n2_ := zM (zW HB.out)
                   clear BK102
                   clear BK108
                   clear HB
                   have BK102 := n0_
                   have BK108 := n1_
                   have HB := n2_
                   clear n0_ n1_ n2_
                   have p110 : 0 ≤ ((ji31) : Int) := of_decide_eq_true (by first | (with_reducible assumption) | assumption)
                   have q110 : (ji31) < (l0_5.length : Int) := of_decide_eq_true (by first | (with_reducible assumption) | assumption)
                   obtain ⟨ad110, e110, hx110_0, hx110_1, hx110_2, hx110_3⟩ := at_T47 HR0_5.out (ji31) p110 q110
                   have hw110_3 := hx110_3
                   have hw110_2 := hx110_2
                   have hw110_1 := hx110_1
                   have hw110_0 := hx110_0
                   obtain rfl : ad107 = ad110 := (by injection e110)
                   replace hx110_0 := (HB.out.cell (World.block_lt_of_cell? w _ hx110_0)).trans hx110_0
                   replace hx110_1 := (HB.out.cell (World.block_lt_of_cell? w _ hx110_1)).trans hx110_1
                   replace hx110_2 := (HB.out.cell (World.block_lt_of_cell? w _ hx110_2)).trans hx110_2
                   replace hx110_3 := (HB.out.cell (World.block_lt_of_cell? w _ hx110_3)).trans hx110_3
                   replace p110 := eq_true p110
                   replace q110 := eq_true q110
                   refine start_ (n := 32) (S := fun w' => w'.cell? ⟨gb108, 0, none⟩ = some (.int .i64 ((rd_T47 l0_5 x52_3).f0)) ∧ w'.cell? ⟨gb108, 1, none⟩ = some (.int .i64 ((rd_T47 l0_5 x52_3).f1.f0)) ∧ w'.cell? ⟨gb108, 2, none⟩ = some (.int .i64 ((rd_T47 l0_5 x52_3).f1.f1)) ∧ w'.cell? ⟨gb108, 3, none⟩ = some (.string ((rd_T47 l0_5 x52_3).f1.f2)) ∧ w'.cell? ⟨gb102, 0, none⟩ = some (.bool a0_0) ∧ w'.cell? ⟨gb102, 1, none⟩ = some (.slice A0_1 l0_1.length c0_1) ∧ w'.cell? ⟨gb102, 2, none⟩ = some (.int .i64 a0_2) ∧ w'.cell? ⟨gb102, 3, none⟩ = some (.int .u64 a0_3) ∧ w'.cell? ⟨gb102, 4, none⟩ = some (.int .u64 a0_4) ∧ w'.cell? ⟨gb102, 5, none⟩ = some (.slice (some ad107) l0_5.length c0_5) ∧ w'.cell? (ad107.add (((ji31)).toNat * 4)) = some (.int .i64 ((rd_T47 l0_5 (ji31)).f0)) ∧ w'.cell? ⟨(ad107.add (((ji31)).toNat * 4)).block, (ad107.add (((ji31)).toNat * 4)).off + 1, none⟩ = some (.int .i64 ((rd_T47 l0_5 (ji31)).f1.f0)) ∧ w'.cell? ⟨(ad107.add (((ji31)).toNat * 4)).block, (ad107.add (((ji31)).toNat * 4)).off + 2, none⟩ = some (.int .i64 ((rd_T47 l0_5 (ji31)).f1.f1)) ∧ w'.cell? ⟨(ad107.add (((ji31)).toNat * 4)).block, (ad107.add (((ji31)).toNat * 4)).off + 3, none⟩ = some (.string ((rd_T47 l0_5 (ji31)).f1.f2))) (ds := []) zb0 (by kernel_rfl) rfl rfl ⟨(zC BK108.out 0).trans rfl, (zC BK108.out 1).trans rfl, (zC BK108.out 2).trans rfl, (zC BK108.out 3).trans rfl, (zC BK102.out 0).trans rfl, (zC BK102.out 1).trans rfl, (zC BK102.out 2).trans rfl, (zC BK102.out 3).trans rfl, (zC BK102.out 4).trans rfl, (zC BK102.out 5).trans rfl, ((HB.out.cell (World.block_lt_of_cell? w _ hw110_0)).trans hw110_0), ((HB.out.cell (World.block_lt_of_cell? w _ hw110_1)).trans hw110_1), ((HB.out.cell (World.block_lt_of_cell? w _ hw110_2)).trans hw110_2), ((HB.out.cell (World.block_lt_of_cell? w _ hw110_3)).trans hw110_3)⟩ (fun hHeld => ?_); refine with_tabW record_May.tab12 record_May.bits12 (fun HT_ HW_ => ?_)
                   generalize w46.drew = w47 at BK102 BK108 HB hx110_0 hx110_1 hx110_2 hx110_3 hHeld ⊢
                   refine pure_ (i := 0) (N := some 57) (v := ?_) (a' := ?_) zb1 rfl rfl (any_of HT_.out (by kernel_rfl)) (fun _ _ _ h => h) (Or.inl ⟨by rfl, ?_⟩) ?_ ?_
                   rotate_left
                   ·intro w'
                    go_simp
                    with_reducible rfl
                   rotate_left
                   ·simp only [Act.put, zT, zZ, zU, i64_w, i32_w]
                    rfl
                   refine take_ (i := 1) (N := some 58) (v := ?_) (a' := ?_) zb2 rfl rfl (take_ofW HT_.out HW_.out (by kernel_rfl)) (fun _ _ _ h => h) (Or.inl ⟨by rfl, ?_⟩) hHeld ?_ ?_
                   rotate_left
                   ·rintro w' ⟨s0, s1, s2, s3, s4, s5, s6, s7, s8, s9, s10, s11, s12, s13⟩
                    go_simp
                    with_reducible rfl
                   rotate_left
                   ·simp only [Act.put, zT, zZ, zU, i64_w, i32_w]
                    rfl
                   refine one_ (i := 2) (N := some 59) zb3 rfl rfl (one_of HT_.out (by kernel_rfl)) (by decide) (fun K hK => ?_)
                   refine goes_ Tryd.func32 (by kernel_rfl) rfl #[.int .i64 ((rd_T47 l0_5 x52_3).f0)] (by rfl) rfl rfl (by (try simp only [zY, List.map_cons, List.map_nil]); first | done | rfl | (simp only [zV, zX]; rfl)) ?_
                   with_reducible refine (record_number.calls ((rd_T47 l0_5 x52_3).f0) true _ A28.out).mono ?_
                   rintro e w' ⟨rfl, ⟨nd, rfl⟩⟩
                   refine ⟨_, rfl, ?_⟩
                   refine hK.out _ _ ⟨(zC BK108.out 0).trans rfl, (zC BK108.out 1).trans rfl, (zC BK108.out 2).trans rfl, (zC BK108.out 3).trans rfl, (zC BK102.out 0).trans rfl, (zC BK102.out 1).trans rfl, (zC BK102.out 2).trans rfl, (zC BK102.out 3).trans rfl, (zC BK102.out 4).trans rfl, (zC BK102.out 5).trans rfl, ((HB.out.cell (World.block_lt_of_cell? w _ hw110_0)).trans hw110_0), ((HB.out.cell (World.block_lt_of_cell? w _ hw110_1)).trans hw110_1), ((HB.out.cell (World.block_lt_of_cell? w _ hw110_2)).trans hw110_2), ((HB.out.cell (World.block_lt_of_cell? w _ hw110_3)).trans hw110_3)⟩ (fun hHeld => ?_)
                   clear hK K
                   refine norm_ (a' := ?_) ?_ ?_
                   rotate_left
                   ·show Act.put _ (some 59) _ = _
                    simp only [Act.put, zT, zZ, zU, i64_w, i32_w]
                    rfl
                   refine pure_ (i := 3) (N := some 60) (v := ?_) (a' := ?_) zb4 rfl rfl (any_of HT_.out (by kernel_rfl)) (fun _ _ _ h => h) (Or.inl ⟨by rfl, ?_⟩) ?_ ?_
                   rotate_left
                   ·intro w'
                    go_simp
                    with_reducible rfl
                   rotate_left
                   ·simp only [Act.put, zT, zZ, zU, i64_w, i32_w]
                    rfl
                   refine pure_ (i := 4) (N := some 61) (v := ?_) (a' := ?_) zb5 rfl rfl (any_of HT_.out (by kernel_rfl)) (fun _ _ _ h => h) (Or.inl ⟨by rfl, ?_⟩) ?_ ?_
                   rotate_left
                   ·intro w'
                    go_simp
                    with_reducible rfl
                   rotate_left
                   ·simp only [Act.put, zT, zZ, zU, i64_w, i32_w]
                    rfl
                   refine pure_ (i := 5) (N := some 62) (v := ?_) (a' := ?_) zb6 rfl rfl (any_of HT_.out (by kernel_rfl)) (fun _ _ _ h => h) (Or.inl ⟨by rfl, ?_⟩) ?_ ?_
                   rotate_left
                   ·intro w'
                    go_simp
                    with_reducible rfl
                   rotate_left
                   ·simp only [Act.put, zT, zZ, zU, i64_w, i32_w]
                    rfl
                   refine pure_ (i := 6) (N := some 63) (v := ?_) (a' := ?_) zb7 rfl rfl (any_of HT_.out (by kernel_rfl)) (fun _ _ _ h => h) (Or.inl ⟨by rfl, ?_⟩) ?_ ?_
                   rotate_left
                   ·intro w'
                    go_simp
                    with_reducible rfl
                   rotate_left
                   ·simp only [Act.put, zT, zZ, zU, i64_w, i32_w]
                    rfl
                   refine pure_ (i := 7) (N := some 64) (v := ?_) (a' := ?_) zb8 rfl rfl (any_of HT_.out (by kernel_rfl)) (fun _ _ _ h => h) (Or.inl ⟨by rfl, ?_⟩) ?_ ?_
                   rotate_left
                   ·intro w'
                    go_simp
                    with_reducible rfl
                   rotate_left
                   ·simp only [Act.put, zT, zZ, zU, i64_w, i32_w]
                    rfl
                   refine pure_ (i := 8) (N := some 65) (v := ?_) (a' := ?_) zb9 rfl rfl (any_of HT_.out (by kernel_rfl)) (fun _ _ _ h => h) (Or.inl ⟨by rfl, ?_⟩) ?_ ?_
                   rotate_left
                   ·intro w'
                    go_simp
                    with_reducible rfl
                   rotate_left
                   ·simp only [Act.put, zT, zZ, zU, i64_w, i32_w]
                    rfl
                   refine pure_ (i := 10) (N := some 67) (v := ?_) (a' := ?_) zb10 rfl rfl (any_of HT_.out (by kernel_rfl)) (fun _ _ _ h => h) (Or.inl ⟨by rfl, ?_⟩) ?_ ?_
                   rotate_left
                   ·intro w'
                    go_simp
                    with_reducible rfl
                   rotate_left
                   ·simp only [Act.put, zT, zZ, zU, i64_w, i32_w]
                    rfl
                   refine pure_ (i := 12) (N := some 69) (v := ?_) (a' := ?_) zb11 rfl rfl (any_of HT_.out (by kernel_rfl)) (fun _ _ _ h => h) (Or.inl ⟨by rfl, ?_⟩) ?_ ?_
                   rotate_left
                   ·intro w'
                    go_simp
                    with_reducible rfl
                   rotate_left
                   ·simp only [Act.put, zT, zZ, zU, i64_w, i32_w]
                    rfl
                   refine pure_ (i := 13) (N := some 70) (v := ?_) (a' := ?_) zb12 rfl rfl (any_of HT_.out (by kernel_rfl)) (fun _ _ _ h => h) (Or.inl ⟨by rfl, ?_⟩) ?_ ?_
                   rotate_left
                   ·intro w'
                    go_simp
                    with_reducible rfl
                   rotate_left
                   ·simp only [Act.put, zT, zZ, zU, i64_w, i32_w]
                    rfl
                   refine take_ (i := 9) (N := some 66) (v := ?_) (a' := ?_) zb13 rfl rfl (take_ofW HT_.out HW_.out (by kernel_rfl)) (fun _ _ _ h => h) (Or.inl ⟨by rfl, ?_⟩) hHeld ?_ ?_
                   rotate_left
                   ·rintro w' ⟨s0, s1, s2, s3, s4, s5, s6, s7, s8, s9, s10, s11, s12, s13⟩
                    go_simp
                    with_reducible rfl
                   rotate_left
                   ·simp only [Act.put, zT, zZ, zU, i64_w, i32_w]
                    rfl
                   refine take_ (i := 11) (N := some 68) (v := ?_) (a' := ?_) zb14 rfl rfl (take_ofW HT_.out HW_.out (by kernel_rfl)) (fun _ _ _ h => h) (Or.inl ⟨by rfl, ?_⟩) hHeld ?_ ?_
                   rotate_left
                   ·rintro w' ⟨s0, s1, s2, s3, s4, s5, s6, s7, s8, s9, s10, s11, s12, s13⟩
                    go_simp
                    with_reducible rfl
                   rotate_left
                   ·simp only [Act.put, zT, zZ, zU, i64_w, i32_w]
                    rfl
                   refine pure_ (i := 14) (N := some 71) (v := ?_) (a' := ?_) zb15 rfl rfl (any_of HT_.out (by kernel_rfl)) (fun _ _ _ h => h) (Or.inl ⟨by rfl, ?_⟩) ?_ ?_
                   rotate_left
                   ·intro w'
                    go_simp
                    with_reducible rfl
                   rotate_left
                   ·simp only [Act.put, zT, zZ, zU, i64_w, i32_w]
                    rfl
                   refine pure_ (i := 15) (N := some 72) (v := ?_) (a' := ?_) zb16 rfl rfl (any_of HT_.out (by kernel_rfl)) (fun _ _ _ h => h) (Or.inl ⟨by rfl, ?_⟩) ?_ ?_
                   rotate_left
                   ·intro w'
                    go_simp
                    with_reducible rfl
                   rotate_left
                   ·simp only [Act.put, zT, zZ, zU, i64_w, i32_w]
                    rfl
                   refine take_ (i := 16) (N := some 73) (v := ?_) (a' := ?_) zb17 rfl rfl (take_ofW HT_.out HW_.out (by kernel_rfl)) (fun _ _ _ h => h) (Or.inl ⟨by rfl, ?_⟩) hHeld ?_ ?_
                   rotate_left
                   ·rintro w' ⟨s0, s1, s2, s3, s4, s5, s6, s7, s8, s9, s10, s11, s12, s13⟩
                    go_simp
                    with_reducible rfl
                   rotate_left
                   ·simp only [Act.put, zT, zZ, zU, i64_w, i32_w]
                    rfl
                   refine pure_ (i := 17) (N := some 74) (v := ?_) (a' := ?_) zb18 rfl rfl (any_of HT_.out (by kernel_rfl)) (fun _ _ _ h => h) (Or.inl ⟨by rfl, ?_⟩) ?_ ?_
                   rotate_left
                   ·intro w'
                    go_simp
                    with_reducible rfl
                   rotate_left
                   ·simp only [Act.put, zT, zZ, zU, i64_w, i32_w]
                    rfl
                   refine pure_ (i := 18) (N := some 75) (v := ?_) (a' := ?_) zb19 rfl rfl (any_of HT_.out (by kernel_rfl)) (fun _ _ _ h => h) (Or.inl ⟨by rfl, ?_⟩) ?_ ?_
                   rotate_left
                   ·intro w'
                    go_simp
                    with_reducible rfl
                   rotate_left
                   ·simp only [Act.put, zT, zZ, zU, i64_w, i32_w]
                    rfl
                   refine pure_ (i := 19) (N := some 76) (v := ?_) (a' := ?_) zb20 rfl rfl (any_of HT_.out (by kernel_rfl)) (fun _ _ _ h => h) (Or.inl ⟨by rfl, ?_⟩) ?_ ?_
                   rotate_left
                   ·intro w'
                    go_simp
                    with_reducible rfl
                   rotate_left
                   ·simp only [Act.put, zT, zZ, zU, i64_w, i32_w]
                    rfl
                   refine pure_ (i := 20) (N := some 77) (v := ?_) (a' := ?_) zb21 rfl rfl (any_of HT_.out (by kernel_rfl)) (fun _ _ _ h => h) (Or.inl ⟨by rfl, ?_⟩) ?_ ?_
                   rotate_left
                   ·intro w'
                    go_simp
                    with_reducible rfl
                   rotate_left
                   ·simp only [Act.put, zT, zZ, zU, i64_w, i32_w]
                    rfl
                   refine pure_ (i := 21) (N := some 78) (v := ?_) (a' := ?_) zb22 rfl rfl (any_of HT_.out (by kernel_rfl)) (fun _ _ _ h => h) (Or.inl ⟨by rfl, ?_⟩) ?_ ?_
                   rotate_left
                   ·intro w'
                    go_simp
                    with_reducible rfl
                   rotate_left
                   ·simp only [Act.put, zT, zZ, zU, i64_w, i32_w]
                    rfl
                   refine take_ (i := 22) (N := some 79) (v := ?_) (a' := ?_) zb23 rfl rfl (take_ofW HT_.out HW_.out (by kernel_rfl)) (fun _ _ _ h => h) (Or.inl ⟨by rfl, ?_⟩) hHeld ?_ ?_
                   rotate_left
                   ·rintro w' ⟨s0, s1, s2, s3, s4, s5, s6, s7, s8, s9, s10, s11, s12, s13⟩
                    go_simp
                    with_reducible rfl
                   rotate_left
                   ·simp only [Act.put, zT, zZ, zU, i64_w, i32_w]
                    rfl
                   refine one_ (i := 23) (N := some 80) zb24 rfl rfl (one_of HT_.out (by kernel_rfl)) (by decide) (fun K hK => ?_)
                   refine goes_ Tryd.func33 (by kernel_rfl) rfl #[.agg #[.int .i64 ((rd_T47 l0_5 x52_3).f1.f0), .int .i64 ((rd_T47 l0_5 x52_3).f1.f1), .string ((rd_T47 l0_5 x52_3).f1.f2)]] (by rfl) rfl rfl (by (try simp only [zY, List.map_cons, List.map_nil]); first | done | rfl | (simp only [zV, zX]; rfl)) ?_
                   with_reducible refine (value_May.calls ((rd_T47 l0_5 x52_3).f1.f0) ((rd_T47 l0_5 x52_3).f1.f1) ((rd_T47 l0_5 x52_3).f1.f2) true _ A40.out).mono ?_
                   rintro e w48 ⟨rfl, hb⟩
                   refine ⟨_, rfl, ?_⟩
                   have n0_ := zM (zB (g := gb102) (o := .cells #[.bool a0_0, .slice A0_1 l0_1.length c0_1, .int .i64 a0_2, .int .u64 a0_3, .int .u64 a0_4, .slice (some ad107) l0_5.length c0_5] 26 (0, 0)) (by (with_reducible repeat (first | refine zN ?_ _ | refine zD ?_ | refine zA ?_ _)); exact BK102.out) hb)
                   have n1_ := zM (zB (g := gb108) (o := .cells #[.int .i64 ((rd_T47 l0_5 x52_3).f0), .int .i64 ((rd_T47 l0_5 x52_3).f1.f0), .int .i64 ((rd_T47 l0_5 x52_3).f1.f1), .string ((rd_T47 l0_5 x52_3).f1.f2)] 47 (0, 0)) (by (with_reducible repeat (first | refine zN ?_ _ | refine zD ?_ | refine zA ?_ _)); exact BK108.out) hb)
                   have n2_ := zM (below_step (by repeat (first | (with_reducible first | exact HB.out | apply zL | apply zP | apply zW | refine zS ?_ GE102.out | refine zS ?_ GE108.out) | exact HB.out)) hb)
                   clear BK102
                   clear BK108
                   clear HB
                   have BK102 := n0_
                   have BK108 := n1_
                   have HB := n2_
                   clear n0_ n1_ n2_
                   (try clear hb)
                   (try clear hb2)
                   (try clear hk)
                   (try clear hi)
                   refine hK.out _ _ ⟨(zC BK108.out 0).trans rfl, (zC BK108.out 1).trans rfl, (zC BK108.out 2).trans rfl, (zC BK108.out 3).trans rfl, (zC BK102.out 0).trans rfl, (zC BK102.out 1).trans rfl, (zC BK102.out 2).trans rfl, (zC BK102.out 3).trans rfl, (zC BK102.out 4).trans rfl, (zC BK102.out 5).trans rfl, ((HB.out.cell (World.block_lt_of_cell? w _ hw110_0)).trans hw110_0), ((HB.out.cell (World.block_lt_of_cell? w _ hw110_1)).trans hw110_1), ((HB.out.cell (World.block_lt_of_cell? w _ hw110_2)).trans hw110_2), ((HB.out.cell (World.block_lt_of_cell? w _ hw110_3)).trans hw110_3)⟩ (fun hHeld => ?_)
                   clear hK K
                   refine norm_ (a' := ?_) ?_ ?_
                   rotate_left
                   ·show Act.put _ (some 80) _ = _
                    simp only [Act.put, zT, zZ, zU, i64_w, i32_w]
                    rfl
                   refine pure_ (i := 24) (N := some 81) (v := ?_) (a' := ?_) zb25 rfl rfl (any_of HT_.out (by kernel_rfl)) (fun _ _ _ h => h) (Or.inl ⟨by rfl, ?_⟩) ?_ ?_
                   rotate_left
                   ·intro w'
                    go_simp
                    with_reducible rfl
                   rotate_left
                   ·simp only [Act.put, zT, zZ, zU, i64_w, i32_w]
                    rfl
                   refine pure_ (i := 25) (N := some 82) (v := ?_) (a' := ?_) zb26 rfl rfl (any_of HT_.out (by kernel_rfl)) (fun _ _ _ h => h) (Or.inl ⟨by rfl, ?_⟩) ?_ ?_
                   rotate_left
                   ·intro w'
                    go_simp
                    with_reducible rfl
                   rotate_left
                   ·simp only [Act.put, zT, zZ, zU, i64_w, i32_w]
                    rfl
                   refine pure_ (i := 26) (N := some 83) (v := ?_) (a' := ?_) zb27 rfl rfl (any_of HT_.out (by kernel_rfl)) (fun _ _ _ h => h) (Or.inl ⟨by rfl, ?_⟩) ?_ ?_
                   rotate_left
                   ·intro w'
                    go_simp
                    with_reducible rfl
                   rotate_left
                   ·simp only [Act.put, zT, zZ, zU, i64_w, i32_w]
                    rfl
                   refine pure_ (i := 27) (N := some 84) (v := ?_) (a' := ?_) zb28 rfl rfl (any_of HT_.out (by kernel_rfl)) (fun _ _ _ h => h) (Or.inl ⟨by rfl, ?_⟩) ?_ ?_
                   rotate_left
                   ·intro w'
                    go_simp
                    with_reducible rfl
                   rotate_left
                   ·simp only [Act.put, zT, zZ, zU, i64_w, i32_w]
                    rfl
                   refine pure_ (i := 28) (N := some 85) (v := ?_) (a' := ?_) zb29 rfl rfl (any_of HT_.out (by kernel_rfl)) (fun _ _ _ h => h) (Or.inl ⟨by rfl, ?_⟩) ?_ ?_
                   rotate_left
                   ·intro w'
                    go_simp
                    with_reducible rfl
                   rotate_left
                   ·simp only [Act.put, zT, zZ, zU, i64_w, i32_w]
                    rfl
                   refine take_ (i := 29) (N := some 86) (v := ?_) (a' := ?_) zb30 rfl rfl (take_ofW HT_.out HW_.out (by kernel_rfl)) (fun _ _ _ h => h) (Or.inl ⟨by rfl, ?_⟩) hHeld ?_ ?_
                   rotate_left
                   ·rintro w' ⟨s0, s1, s2, s3, s4, s5, s6, s7, s8, s9, s10, s11, s12, s13⟩
                    go_simp
                    with_reducible rfl
                   rotate_left
                   ·simp only [Act.put, zT, zZ, zU, i64_w, i32_w]
                    rfl
                   refine pure_ (i := 30) (N := some 87) (v := ?_) (a' := ?_) zb31 rfl rfl (any_of HT_.out (by kernel_rfl)) (fun _ _ _ h => h) (Or.inl ⟨by rfl, ?_⟩) ?_ ?_
                   rotate_left
                   ·intro w'
                    go_simp
                    with_reducible rfl
                   rotate_left
                   ·simp only [Act.put, zT, zZ, zU, i64_w, i32_w]
                    rfl
                   refine pure_ (i := 31) (N := some 88) (v := ?_) (a' := ?_) zb32 rfl rfl (any_of HT_.out (by kernel_rfl)) (fun _ _ _ h => h) (Or.inl ⟨by rfl, ?_⟩) ?_ ?_
                   rotate_left
                   ·intro w'
                    go_simp
                    with_reducible rfl
                   rotate_left
                   ·simp only [Act.put, zT, zZ, zU, i64_w, i32_w]
                    rfl
                   refine done_ (done_of HT_.out (by kernel_rfl)) ?_
                   try go_wp2
                   go_ret
                   exact ⟨by first | rfl | (simp [errW_none, errW_some] <;> rfl) | (simp only [← hji31]; first | rfl | (simp [errW_none, errW_some] <;> rfl)) | (simp [*, errW_none, errW_some] <;> rfl), by repeat (first | (with_reducible first | exact HB.out | apply zL | apply zP | apply zW | refine zS ?_ GE102.out | refine zS ?_ GE108.out) | exact HB.out)⟩
                  ·rw [if_neg c42] at H
                   have c42b0 : (((rd_T47 l0_5 x52_3).f1.f0) == 0) = false := beq_eq_false_iff_ne.mpr c42
                   have c42b1 : (((rd_T47 l0_5 x52_3).f1.f0) != 0) = true := bne_iff_ne.mpr c42
                   have H' := zM H
                   clear H
                   have p107 : 0 ≤ (x52_3 : Int) := of_decide_eq_true (by first | (with_reducible assumption) | assumption)
                   have q107 : x52_3 < (l0_5.length : Int) := of_decide_eq_true (by first | (with_reducible assumption) | assumption)
                   obtain ⟨ad107, e107, hx107_0, hx107_1, hx107_2, hx107_3⟩ := at_T47 HR0_5.out x52_3 p107 q107
                   cases e107
                   replace hx107_0 := (HB.out.cell (World.block_lt_of_cell? w _ hx107_0)).trans hx107_0
                   replace hx107_1 := (HB.out.cell (World.block_lt_of_cell? w _ hx107_1)).trans hx107_1
                   replace hx107_2 := (HB.out.cell (World.block_lt_of_cell? w _ hx107_2)).trans hx107_2
                   replace hx107_3 := (HB.out.cell (World.block_lt_of_cell? w _ hx107_3)).trans hx107_3
                   replace p107 := eq_true p107
                   replace q107 := eq_true q107
                   try go_wp2_with (first | ((with_reducible refine gate_dst (N := 6) rfl ?_); (try (refine gate_guard (by rfl) ?_; dsimp only)); refine box_event ?hg (N := 6) ?hd (cs := #[.int .i64 0, .int .i64 0, .int .i64 0, .string (⟨#[]⟩ : ByteArray)]) (t := 47) ?hr ?_; (case hd => rfl); (case hg => rfl); (case hr => first | (go_simp; done) | (go_simp; rfl)); intro gb108 hg w49 hbox hb; have n0_ := zM (zB (g := gb102) (o := .cells #[.bool a0_0, .slice A0_1 l0_1.length c0_1, .int .i64 a0_2, .int .u64 a0_3, .int .u64 a0_4, .slice (some ad107) l0_5.length c0_5] 26 (0, 0)) (by (with_reducible repeat (first | refine zN ?_ _ | refine zD ?_ | refine zA ?_ _)); exact BK102.out) hb); have n1_ := zM (below_step (by repeat (first | (with_reducible first | exact HB.out | apply zL | apply zP | apply zW | refine zS ?_ GE102.out) | exact HB.out)) hb); have n2_ := zM (hbox); have n3_ := zM ((by rw [hg]; exact (below_size (by repeat (first | (with_reducible first | exact HB.out | apply zL | apply zP | apply zW | refine zS ?_ GE102.out) | exact HB.out))) : w.heap.size ≤ gb108)); have n4_ := zM ((by rw [hg]; exact (below_size (by repeat (first | (with_reducible first | exact HB.out | apply zL | apply zP | apply zW | refine zS ?_ GE102.out) | exact HB.out))) : w.heap.size ≤ gb108)); have n5_ := zM ((by rw [hg]; exact Nat.ne_of_lt (blk_lt (g := gb102) (o := .cells #[.bool a0_0, .slice A0_1 l0_1.length c0_1, .int .i64 a0_2, .int .u64 a0_3, .int .u64 a0_4, .slice (some ad107) l0_5.length c0_5] 26 (0, 0)) (by (with_reducible repeat (first | refine zN ?_ _ | refine zD ?_ | refine zA ?_ _)); exact BK102.out)) : gb102 ≠ gb108)); have n6_ := zM ((by rw [hg]; exact Nat.ne_of_gt (blk_lt (g := gb102) (o := .cells #[.bool a0_0, .slice A0_1 l0_1.length c0_1, .int .i64 a0_2, .int .u64 a0_3, .int .u64 a0_4, .slice (some ad107) l0_5.length c0_5] 26 (0, 0)) (by (with_reducible repeat (first | refine zN ?_ _ | refine zD ?_ | refine zA ?_ _)); exact BK102.out)) : gb108 ≠ gb102)); clear BK102; clear HB; have BK102 := n0_; have HB := n1_; have BK108 := n2_; have GW108 := n3_; have GE108 := n4_; have NB102_108 := n5_; have NB108_102 := n6_; clear n0_ n1_ n2_ n3_ n4_ n5_ n6_; clear hb hbox hg; have hnb50 := NB108_102.out; have hnc50 := NB102_108.out; have hcz51_0 : w49.cell? ⟨gb108, 0, none⟩ = some (.int .i64 0) := (zC BK108.out 0).trans rfl; have hcz51_1 : w49.cell? ⟨gb108, 1, none⟩ = some (.int .i64 0) := (zC BK108.out 1).trans rfl; have hcz51_2 : w49.cell? ⟨gb108, 2, none⟩ = some (.int .i64 0) := (zC BK108.out 2).trans rfl; have hcz51_3 : w49.cell? ⟨gb108, 3, none⟩ = some (.string (⟨#[]⟩ : ByteArray)) := (zC BK108.out 3).trans rfl; have hfz51_0 := zF BK108.out 0; have hfz51_1 := zF BK108.out 1; have hfz51_2 := zF BK108.out 2; have hfz51_3 := zF BK108.out 3))
                   have n0_ : Aside0 (((((w49.setCell ⟨gb108, 0, none⟩ (.int .i64 ((rd_T47 l0_5 x52_3).f0))).setCell ⟨gb108, 1, none⟩ (.int .i64 ((rd_T47 l0_5 x52_3).f1.f0))).setCell ⟨gb108, 2, none⟩ (.int .i64 ((rd_T47 l0_5 x52_3).f1.f1))).setCell ⟨gb108, 3, none⟩ (.string ((rd_T47 l0_5 x52_3).f1.f2))).heap[gb102]? = some (.cells #[.bool a0_0, .slice A0_1 l0_1.length c0_1, .int .i64 a0_2, .int .u64 a0_3, .int .u64 a0_4, .slice (some ad107) l0_5.length c0_5] 26 (0, 0))) := ⟨by (with_reducible repeat (first | refine zN ?_ _ | refine zD ?_ | refine zA ?_ _)); refine blk_far ?_ NB102_108.out _; (with_reducible repeat (first | refine zN ?_ _ | refine zD ?_ | refine zA ?_ _)); refine blk_far ?_ NB102_108.out _; (with_reducible repeat (first | refine zN ?_ _ | refine zD ?_ | refine zA ?_ _)); refine blk_far ?_ NB102_108.out _; (with_reducible repeat (first | refine zN ?_ _ | refine zD ?_ | refine zA ?_ _)); refine blk_far ?_ NB102_108.out _; (with_reducible repeat (first | refine zN ?_ _ | refine zD ?_ | refine zA ?_ _)); exact BK102.out⟩
                   have n1_ : Aside0 (((((w49.setCell ⟨gb108, 0, none⟩ (.int .i64 ((rd_T47 l0_5 x52_3).f0))).setCell ⟨gb108, 1, none⟩ (.int .i64 ((rd_T47 l0_5 x52_3).f1.f0))).setCell ⟨gb108, 2, none⟩ (.int .i64 ((rd_T47 l0_5 x52_3).f1.f1))).setCell ⟨gb108, 3, none⟩ (.string ((rd_T47 l0_5 x52_3).f1.f2))).heap[gb108]? = some (.cells #[.int .i64 ((rd_T47 l0_5 x52_3).f0), .int .i64 ((rd_T47 l0_5 x52_3).f1.f0), .int .i64 ((rd_T47 l0_5 x52_3).f1.f1), .string ((rd_T47 l0_5 x52_3).f1.f2)] 47 (0, 0))) := ⟨by (with_reducible repeat (first | refine zN ?_ _ | refine zD ?_ | refine zA ?_ _)); refine blk_put (cs := #[.int .i64 ((rd_T47 l0_5 x52_3).f0), .int .i64 ((rd_T47 l0_5 x52_3).f1.f0), .int .i64 ((rd_T47 l0_5 x52_3).f1.f1), .string (⟨#[]⟩ : ByteArray)]) ?_ 3 _ rfl; (with_reducible repeat (first | refine zN ?_ _ | refine zD ?_ | refine zA ?_ _)); refine blk_put (cs := #[.int .i64 ((rd_T47 l0_5 x52_3).f0), .int .i64 ((rd_T47 l0_5 x52_3).f1.f0), .int .i64 0, .string (⟨#[]⟩ : ByteArray)]) ?_ 2 _ rfl; (with_reducible repeat (first | refine zN ?_ _ | refine zD ?_ | refine zA ?_ _)); refine blk_put (cs := #[.int .i64 ((rd_T47 l0_5 x52_3).f0), .int .i64 0, .int .i64 0, .string (⟨#[]⟩ : ByteArray)]) ?_ 1 _ rfl; (with_reducible repeat (first | refine zN ?_ _ | refine zD ?_ | refine zA ?_ _)); refine blk_put (cs := #[.int .i64 0, .int .i64 0, .int .i64 0, .string (⟨#[]⟩ : ByteArray)]) ?_ 0 _ rfl; (with_reducible repeat (first | refine zN ?_ _ | refine zD ?_ | refine zA ?_ _)); exact BK108.out⟩
                   have n2_ : Aside0 (Below w.heap.size w ((((w49.setCell ⟨gb108, 0, none⟩ (.int .i64 ((rd_T47 l0_5 x52_3).f0))).setCell ⟨gb108, 1, none⟩ (.int .i64 ((rd_T47 l0_5 x52_3).f1.f0))).setCell ⟨gb108, 2, none⟩ (.int .i64 ((rd_T47 l0_5 x52_3).f1.f1))).setCell ⟨gb108, 3, none⟩ (.string ((rd_T47 l0_5 x52_3).f1.f2)))) := ⟨by repeat (first | (with_reducible first | exact HB.out | apply zL | apply zP | apply zW | refine zS ?_ GE102.out | refine zS ?_ GE108.out) | exact HB.out)⟩
                   (try clear BK102)
                   (try clear BK108)
                   (try clear HB)
                   generalize ((((w49.setCell ⟨gb108, 0, none⟩ (.int .i64 ((rd_T47 l0_5 x52_3).f0))).setCell ⟨gb108, 1, none⟩ (.int .i64 ((rd_T47 l0_5 x52_3).f1.f0))).setCell ⟨gb108, 2, none⟩ (.int .i64 ((rd_T47 l0_5 x52_3).f1.f1))).setCell ⟨gb108, 3, none⟩ (.string ((rd_T47 l0_5 x52_3).f1.f2))) = w52 at n0_ n1_ n2_ ⊢
                   have BK102 := n0_
                   have BK108 := n1_
                   have HB := n2_
                   clear n0_ n1_ n2_
                   have n0_ := zM (zD BK102.out)
                   have n1_ := zM (zD BK108.out)
                   have n2_ := zM (zW HB.out)
                   clear BK102
                   clear BK108
                   clear HB
                   have BK102 := n0_
                   have BK108 := n1_
                   have HB := n2_
                   clear n0_ n1_ n2_
                   have p110 : 0 ≤ ((ji31) : Int) := of_decide_eq_true (by first | (with_reducible assumption) | assumption)
                   have q110 : (ji31) < (l0_5.length : Int) := of_decide_eq_true (by first | (with_reducible assumption) | assumption)
                   obtain ⟨ad110, e110, hx110_0, hx110_1, hx110_2, hx110_3⟩ := at_T47 HR0_5.out (ji31) p110 q110
                   have hw110_3 := hx110_3
                   have hw110_2 := hx110_2
                   have hw110_1 := hx110_1
                   have hw110_0 := hx110_0
                   obtain rfl : ad107 = ad110 := (by injection e110)
                   replace hx110_0 := (HB.out.cell (World.block_lt_of_cell? w _ hx110_0)).trans hx110_0
                   replace hx110_1 := (HB.out.cell (World.block_lt_of_cell? w _ hx110_1)).trans hx110_1
                   replace hx110_2 := (HB.out.cell (World.block_lt_of_cell? w _ hx110_2)).trans hx110_2
                   replace hx110_3 := (HB.out.cell (World.block_lt_of_cell? w _ hx110_3)).trans hx110_3
                   replace p110 := eq_true p110
                   replace q110 := eq_true q110
                   refine start_ (n := 32) (S := fun w' => w'.cell? ⟨gb108, 0, none⟩ = some (.int .i64 ((rd_T47 l0_5 x52_3).f0)) ∧ w'.cell? ⟨gb108, 1, none⟩ = some (.int .i64 ((rd_T47 l0_5 x52_3).f1.f0)) ∧ w'.cell? ⟨gb108, 2, none⟩ = some (.int .i64 ((rd_T47 l0_5 x52_3).f1.f1)) ∧ w'.cell? ⟨gb108, 3, none⟩ = some (.string ((rd_T47 l0_5 x52_3).f1.f2)) ∧ w'.cell? ⟨gb102, 0, none⟩ = some (.bool a0_0) ∧ w'.cell? ⟨gb102, 1, none⟩ = some (.slice A0_1 l0_1.length c0_1) ∧ w'.cell? ⟨gb102, 2, none⟩ = some (.int .i64 a0_2) ∧ w'.cell? ⟨gb102, 3, none⟩ = some (.int .u64 a0_3) ∧ w'.cell? ⟨gb102, 4, none⟩ = some (.int .u64 a0_4) ∧ w'.cell? ⟨gb102, 5, none⟩ = some (.slice (some ad107) l0_5.length c0_5) ∧ w'.cell? (ad107.add (((ji31)).toNat * 4)) = some (.int .i64 ((rd_T47 l0_5 (ji31)).f0)) ∧ w'.cell? ⟨(ad107.add (((ji31)).toNat * 4)).block, (ad107.add (((ji31)).toNat * 4)).off + 1, none⟩ = some (.int .i64 ((rd_T47 l0_5 (ji31)).f1.f0)) ∧ w'.cell? ⟨(ad107.add (((ji31)).toNat * 4)).block, (ad107.add (((ji31)).toNat * 4)).off + 2, none⟩ = some (.int .i64 ((rd_T47 l0_5 (ji31)).f1.f1)) ∧ w'.cell? ⟨(ad107.add (((ji31)).toNat * 4)).block, (ad107.add (((ji31)).toNat * 4)).off + 3, none⟩ = some (.string ((rd_T47 l0_5 (ji31)).f1.f2))) (ds := []) zb0 (by kernel_rfl) rfl rfl ⟨(zC BK108.out 0).trans rfl, (zC BK108.out 1).trans rfl, (zC BK108.out 2).trans rfl, (zC BK108.out 3).trans rfl, (zC BK102.out 0).trans rfl, (zC BK102.out 1).trans rfl, (zC BK102.out 2).trans rfl, (zC BK102.out 3).trans rfl, (zC BK102.out 4).trans rfl, (zC BK102.out 5).trans rfl, ((HB.out.cell (World.block_lt_of_cell? w _ hw110_0)).trans hw110_0), ((HB.out.cell (World.block_lt_of_cell? w _ hw110_1)).trans hw110_1), ((HB.out.cell (World.block_lt_of_cell? w _ hw110_2)).trans hw110_2), ((HB.out.cell (World.block_lt_of_cell? w _ hw110_3)).trans hw110_3)⟩ (fun hHeld => ?_); refine with_tabW record_May.tab12 record_May.bits12 (fun HT_ HW_ => ?_)
                   generalize w52.drew = w53 at BK102 BK108 HB hx110_0 hx110_1 hx110_2 hx110_3 hHeld ⊢
                   refine pure_ (i := 0) (N := some 57) (v := ?_) (a' := ?_) zb1 rfl rfl (any_of HT_.out (by kernel_rfl)) (fun _ _ _ h => h) (Or.inl ⟨by rfl, ?_⟩) ?_ ?_
                   rotate_left
                   ·intro w'
                    go_simp
                    with_reducible rfl
                   rotate_left
                   ·simp only [Act.put, zT, zZ, zU, i64_w, i32_w]
                    rfl
                   refine take_ (i := 1) (N := some 58) (v := ?_) (a' := ?_) zb2 rfl rfl (take_ofW HT_.out HW_.out (by kernel_rfl)) (fun _ _ _ h => h) (Or.inl ⟨by rfl, ?_⟩) hHeld ?_ ?_
                   rotate_left
                   ·rintro w' ⟨s0, s1, s2, s3, s4, s5, s6, s7, s8, s9, s10, s11, s12, s13⟩
                    go_simp
                    with_reducible rfl
                   rotate_left
                   ·simp only [Act.put, zT, zZ, zU, i64_w, i32_w]
                    rfl
                   refine one_ (i := 2) (N := some 59) zb3 rfl rfl (one_of HT_.out (by kernel_rfl)) (by decide) (fun K hK => ?_)
                   refine goes_ Tryd.func32 (by kernel_rfl) rfl #[.int .i64 ((rd_T47 l0_5 x52_3).f0)] (by rfl) rfl rfl (by (try simp only [zY, List.map_cons, List.map_nil]); first | done | rfl | (simp only [zV, zX]; rfl)) ?_
                   with_reducible refine (record_number.calls ((rd_T47 l0_5 x52_3).f0) true _ A28.out).mono ?_
                   rintro e w' ⟨rfl, ⟨nd, rfl⟩⟩
                   refine ⟨_, rfl, ?_⟩
                   refine hK.out _ _ ⟨(zC BK108.out 0).trans rfl, (zC BK108.out 1).trans rfl, (zC BK108.out 2).trans rfl, (zC BK108.out 3).trans rfl, (zC BK102.out 0).trans rfl, (zC BK102.out 1).trans rfl, (zC BK102.out 2).trans rfl, (zC BK102.out 3).trans rfl, (zC BK102.out 4).trans rfl, (zC BK102.out 5).trans rfl, ((HB.out.cell (World.block_lt_of_cell? w _ hw110_0)).trans hw110_0), ((HB.out.cell (World.block_lt_of_cell? w _ hw110_1)).trans hw110_1), ((HB.out.cell (World.block_lt_of_cell? w _ hw110_2)).trans hw110_2), ((HB.out.cell (World.block_lt_of_cell? w _ hw110_3)).trans hw110_3)⟩ (fun hHeld => ?_)
                   clear hK K
                   refine norm_ (a' := ?_) ?_ ?_
                   rotate_left
                   ·show Act.put _ (some 59) _ = _
                    simp only [Act.put, zT, zZ, zU, i64_w, i32_w]
                    rfl
                   refine pure_ (i := 3) (N := some 60) (v := ?_) (a' := ?_) zb4 rfl rfl (any_of HT_.out (by kernel_rfl)) (fun _ _ _ h => h) (Or.inl ⟨by rfl, ?_⟩) ?_ ?_
                   rotate_left
                   ·intro w'
                    go_simp
                    with_reducible rfl
                   rotate_left
                   ·simp only [Act.put, zT, zZ, zU, i64_w, i32_w]
                    rfl
                   refine pure_ (i := 4) (N := some 61) (v := ?_) (a' := ?_) zb5 rfl rfl (any_of HT_.out (by kernel_rfl)) (fun _ _ _ h => h) (Or.inl ⟨by rfl, ?_⟩) ?_ ?_
                   rotate_left
                   ·intro w'
                    go_simp
                    with_reducible rfl
                   rotate_left
                   ·simp only [Act.put, zT, zZ, zU, i64_w, i32_w]
                    rfl
                   refine pure_ (i := 5) (N := some 62) (v := ?_) (a' := ?_) zb6 rfl rfl (any_of HT_.out (by kernel_rfl)) (fun _ _ _ h => h) (Or.inl ⟨by rfl, ?_⟩) ?_ ?_
                   rotate_left
                   ·intro w'
                    go_simp
                    with_reducible rfl
                   rotate_left
                   ·simp only [Act.put, zT, zZ, zU, i64_w, i32_w]
                    rfl
                   refine pure_ (i := 6) (N := some 63) (v := ?_) (a' := ?_) zb7 rfl rfl (any_of HT_.out (by kernel_rfl)) (fun _ _ _ h => h) (Or.inl ⟨by rfl, ?_⟩) ?_ ?_
                   rotate_left
                   ·intro w'
                    go_simp
                    with_reducible rfl
                   rotate_left
                   ·simp only [Act.put, zT, zZ, zU, i64_w, i32_w]
                    rfl
                   refine pure_ (i := 7) (N := some 64) (v := ?_) (a' := ?_) zb8 rfl rfl (any_of HT_.out (by kernel_rfl)) (fun _ _ _ h => h) (Or.inl ⟨by rfl, ?_⟩) ?_ ?_
                   rotate_left
                   ·intro w'
                    go_simp
                    with_reducible rfl
                   rotate_left
                   ·simp only [Act.put, zT, zZ, zU, i64_w, i32_w]
                    rfl
                   refine pure_ (i := 8) (N := some 65) (v := ?_) (a' := ?_) zb9 rfl rfl (any_of HT_.out (by kernel_rfl)) (fun _ _ _ h => h) (Or.inl ⟨by rfl, ?_⟩) ?_ ?_
                   rotate_left
                   ·intro w'
                    go_simp
                    with_reducible rfl
                   rotate_left
                   ·simp only [Act.put, zT, zZ, zU, i64_w, i32_w]
                    rfl
                   refine pure_ (i := 10) (N := some 67) (v := ?_) (a' := ?_) zb10 rfl rfl (any_of HT_.out (by kernel_rfl)) (fun _ _ _ h => h) (Or.inl ⟨by rfl, ?_⟩) ?_ ?_
                   rotate_left
                   ·intro w'
                    go_simp
                    with_reducible rfl
                   rotate_left
                   ·simp only [Act.put, zT, zZ, zU, i64_w, i32_w]
                    rfl
                   refine pure_ (i := 12) (N := some 69) (v := ?_) (a' := ?_) zb11 rfl rfl (any_of HT_.out (by kernel_rfl)) (fun _ _ _ h => h) (Or.inl ⟨by rfl, ?_⟩) ?_ ?_
                   rotate_left
                   ·intro w'
                    go_simp
                    with_reducible rfl
                   rotate_left
                   ·simp only [Act.put, zT, zZ, zU, i64_w, i32_w]
                    rfl
                   refine pure_ (i := 13) (N := some 70) (v := ?_) (a' := ?_) zb12 rfl rfl (any_of HT_.out (by kernel_rfl)) (fun _ _ _ h => h) (Or.inl ⟨by rfl, ?_⟩) ?_ ?_
                   rotate_left
                   ·intro w'
                    go_simp
                    with_reducible rfl
                   rotate_left
                   ·simp only [Act.put, zT, zZ, zU, i64_w, i32_w]
                    rfl
                   refine take_ (i := 9) (N := some 66) (v := ?_) (a' := ?_) zb13 rfl rfl (take_ofW HT_.out HW_.out (by kernel_rfl)) (fun _ _ _ h => h) (Or.inl ⟨by rfl, ?_⟩) hHeld ?_ ?_
                   rotate_left
                   ·rintro w' ⟨s0, s1, s2, s3, s4, s5, s6, s7, s8, s9, s10, s11, s12, s13⟩
                    go_simp
                    with_reducible rfl
                   rotate_left
                   ·simp only [Act.put, zT, zZ, zU, i64_w, i32_w]
                    rfl
                   refine take_ (i := 11) (N := some 68) (v := ?_) (a' := ?_) zb14 rfl rfl (take_ofW HT_.out HW_.out (by kernel_rfl)) (fun _ _ _ h => h) (Or.inl ⟨by rfl, ?_⟩) hHeld ?_ ?_
                   rotate_left
                   ·rintro w' ⟨s0, s1, s2, s3, s4, s5, s6, s7, s8, s9, s10, s11, s12, s13⟩
                    go_simp
                    with_reducible rfl
                   rotate_left
                   ·simp only [Act.put, zT, zZ, zU, i64_w, i32_w]
                    rfl
                   refine pure_ (i := 14) (N := some 71) (v := ?_) (a' := ?_) zb15 rfl rfl (any_of HT_.out (by kernel_rfl)) (fun _ _ _ h => h) (Or.inl ⟨by rfl, ?_⟩) ?_ ?_
                   rotate_left
                   ·intro w'
                    go_simp
                    with_reducible rfl
                   rotate_left
                   ·simp only [Act.put, zT, zZ, zU, i64_w, i32_w]
                    rfl
                   refine pure_ (i := 15) (N := some 72) (v := ?_) (a' := ?_) zb16 rfl rfl (any_of HT_.out (by kernel_rfl)) (fun _ _ _ h => h) (Or.inl ⟨by rfl, ?_⟩) ?_ ?_
                   rotate_left
                   ·intro w'
                    go_simp
                    with_reducible rfl
                   rotate_left
                   ·simp only [Act.put, zT, zZ, zU, i64_w, i32_w]
                    rfl
                   refine take_ (i := 16) (N := some 73) (v := ?_) (a' := ?_) zb17 rfl rfl (take_ofW HT_.out HW_.out (by kernel_rfl)) (fun _ _ _ h => h) (Or.inl ⟨by rfl, ?_⟩) hHeld ?_ ?_
                   rotate_left
                   ·rintro w' ⟨s0, s1, s2, s3, s4, s5, s6, s7, s8, s9, s10, s11, s12, s13⟩
                    go_simp
                    with_reducible rfl
                   rotate_left
                   ·simp only [Act.put, zT, zZ, zU, i64_w, i32_w]
                    rfl
                   refine pure_ (i := 17) (N := some 74) (v := ?_) (a' := ?_) zb18 rfl rfl (any_of HT_.out (by kernel_rfl)) (fun _ _ _ h => h) (Or.inl ⟨by rfl, ?_⟩) ?_ ?_
                   rotate_left
                   ·intro w'
                    go_simp
                    with_reducible rfl
                   rotate_left
                   ·simp only [Act.put, zT, zZ, zU, i64_w, i32_w]
                    rfl
                   refine pure_ (i := 18) (N := some 75) (v := ?_) (a' := ?_) zb19 rfl rfl (any_of HT_.out (by kernel_rfl)) (fun _ _ _ h => h) (Or.inl ⟨by rfl, ?_⟩) ?_ ?_
                   rotate_left
                   ·intro w'
                    go_simp
                    with_reducible rfl
                   rotate_left
                   ·simp only [Act.put, zT, zZ, zU, i64_w, i32_w]
                    rfl
                   refine pure_ (i := 19) (N := some 76) (v := ?_) (a' := ?_) zb20 rfl rfl (any_of HT_.out (by kernel_rfl)) (fun _ _ _ h => h) (Or.inl ⟨by rfl, ?_⟩) ?_ ?_
                   rotate_left
                   ·intro w'
                    go_simp
                    with_reducible rfl
                   rotate_left
                   ·simp only [Act.put, zT, zZ, zU, i64_w, i32_w]
                    rfl
                   refine pure_ (i := 20) (N := some 77) (v := ?_) (a' := ?_) zb21 rfl rfl (any_of HT_.out (by kernel_rfl)) (fun _ _ _ h => h) (Or.inl ⟨by rfl, ?_⟩) ?_ ?_
                   rotate_left
                   ·intro w'
                    go_simp
                    with_reducible rfl
                   rotate_left
                   ·simp only [Act.put, zT, zZ, zU, i64_w, i32_w]
                    rfl
                   refine pure_ (i := 21) (N := some 78) (v := ?_) (a' := ?_) zb22 rfl rfl (any_of HT_.out (by kernel_rfl)) (fun _ _ _ h => h) (Or.inl ⟨by rfl, ?_⟩) ?_ ?_
                   rotate_left
                   ·intro w'
                    go_simp
                    with_reducible rfl
                   rotate_left
                   ·simp only [Act.put, zT, zZ, zU, i64_w, i32_w]
                    rfl
                   refine take_ (i := 22) (N := some 79) (v := ?_) (a' := ?_) zb23 rfl rfl (take_ofW HT_.out HW_.out (by kernel_rfl)) (fun _ _ _ h => h) (Or.inl ⟨by rfl, ?_⟩) hHeld ?_ ?_
                   rotate_left
                   ·rintro w' ⟨s0, s1, s2, s3, s4, s5, s6, s7, s8, s9, s10, s11, s12, s13⟩
                    go_simp
                    with_reducible rfl
                   rotate_left
                   ·simp only [Act.put, zT, zZ, zU, i64_w, i32_w]
                    rfl
                   refine one_ (i := 23) (N := some 80) zb24 rfl rfl (one_of HT_.out (by kernel_rfl)) (by decide) (fun K hK => ?_)
                   refine goes_ Tryd.func33 (by kernel_rfl) rfl #[.agg #[.int .i64 ((rd_T47 l0_5 x52_3).f1.f0), .int .i64 ((rd_T47 l0_5 x52_3).f1.f1), .string ((rd_T47 l0_5 x52_3).f1.f2)]] (by rfl) rfl rfl (by (try simp only [zY, List.map_cons, List.map_nil]); first | done | rfl | (simp only [zV, zX]; rfl)) ?_
                   with_reducible refine (value_May.calls ((rd_T47 l0_5 x52_3).f1.f0) ((rd_T47 l0_5 x52_3).f1.f1) ((rd_T47 l0_5 x52_3).f1.f2) true _ A40.out).mono ?_
                   rintro e w54 ⟨rfl, hb⟩
                   refine ⟨_, rfl, ?_⟩
                   have n0_ := zM (zB (g := gb102) (o := .cells #[.bool a0_0, .slice A0_1 l0_1.length c0_1, .int .i64 a0_2, .int .u64 a0_3, .int .u64 a0_4, .slice (some ad107) l0_5.length c0_5] 26 (0, 0)) (by (with_reducible repeat (first | refine zN ?_ _ | refine zD ?_ | refine zA ?_ _)); exact BK102.out) hb)
                   have n1_ := zM (zB (g := gb108) (o := .cells #[.int .i64 ((rd_T47 l0_5 x52_3).f0), .int .i64 ((rd_T47 l0_5 x52_3).f1.f0), .int .i64 ((rd_T47 l0_5 x52_3).f1.f1), .string ((rd_T47 l0_5 x52_3).f1.f2)] 47 (0, 0)) (by (with_reducible repeat (first | refine zN ?_ _ | refine zD ?_ | refine zA ?_ _)); exact BK108.out) hb)
                   have n2_ := zM (below_step (by repeat (first | (with_reducible first | exact HB.out | apply zL | apply zP | apply zW | refine zS ?_ GE102.out | refine zS ?_ GE108.out) | exact HB.out)) hb)
                   clear BK102
                   clear BK108
                   clear HB
                   have BK102 := n0_
                   have BK108 := n1_
                   have HB := n2_
                   clear n0_ n1_ n2_
                   (try clear hb)
                   (try clear hb2)
                   (try clear hk)
                   (try clear hi)
                   refine hK.out _ _ ⟨(zC BK108.out 0).trans rfl, (zC BK108.out 1).trans rfl, (zC BK108.out 2).trans rfl, (zC BK108.out 3).trans rfl, (zC BK102.out 0).trans rfl, (zC BK102.out 1).trans rfl, (zC BK102.out 2).trans rfl, (zC BK102.out 3).trans rfl, (zC BK102.out 4).trans rfl, (zC BK102.out 5).trans rfl, ((HB.out.cell (World.block_lt_of_cell? w _ hw110_0)).trans hw110_0), ((HB.out.cell (World.block_lt_of_cell? w _ hw110_1)).trans hw110_1), ((HB.out.cell (World.block_lt_of_cell? w _ hw110_2)).trans hw110_2), ((HB.out.cell (World.block_lt_of_cell? w _ hw110_3)).trans hw110_3)⟩ (fun hHeld => ?_)
                   clear hK K
                   refine norm_ (a' := ?_) ?_ ?_
                   rotate_left
                   ·show Act.put _ (some 80) _ = _
                    simp only [Act.put, zT, zZ, zU, i64_w, i32_w]
                    rfl
                   refine pure_ (i := 24) (N := some 81) (v := ?_) (a' := ?_) zb25 rfl rfl (any_of HT_.out (by kernel_rfl)) (fun _ _ _ h => h) (Or.inl ⟨by rfl, ?_⟩) ?_ ?_
                   rotate_left
                   ·intro w'
                    go_simp
                    with_reducible rfl
                   rotate_left
                   ·simp only [Act.put, zT, zZ, zU, i64_w, i32_w]
                    rfl
                   refine pure_ (i := 25) (N := some 82) (v := ?_) (a' := ?_) zb26 rfl rfl (any_of HT_.out (by kernel_rfl)) (fun _ _ _ h => h) (Or.inl ⟨by rfl, ?_⟩) ?_ ?_
                   rotate_left
                   ·intro w'
                    go_simp
                    with_reducible rfl
                   rotate_left
                   ·simp only [Act.put, zT, zZ, zU, i64_w, i32_w]
                    rfl
                   refine pure_ (i := 26) (N := some 83) (v := ?_) (a' := ?_) zb27 rfl rfl (any_of HT_.out (by kernel_rfl)) (fun _ _ _ h => h) (Or.inl ⟨by rfl, ?_⟩) ?_ ?_
                   rotate_left
                   ·intro w'
                    go_simp
                    with_reducible rfl
                   rotate_left
                   ·simp only [Act.put, zT, zZ, zU, i64_w, i32_w]
                    rfl
                   refine pure_ (i := 27) (N := some 84) (v := ?_) (a' := ?_) zb28 rfl rfl (any_of HT_.out (by kernel_rfl)) (fun _ _ _ h => h) (Or.inl ⟨by rfl, ?_⟩) ?_ ?_
                   rotate_left
                   ·intro w'
                    go_simp
                    with_reducible rfl
                   rotate_left
                   ·simp only [Act.put, zT, zZ, zU, i64_w, i32_w]
                    rfl
                   refine pure_ (i := 28) (N := some 85) (v := ?_) (a' := ?_) zb29 rfl rfl (any_of HT_.out (by kernel_rfl)) (fun _ _ _ h => h) (Or.inl ⟨by rfl, ?_⟩) ?_ ?_
                   rotate_left
                   ·intro w'
                    go_simp
                    with_reducible rfl
                   rotate_left
                   ·simp only [Act.put, zT, zZ, zU, i64_w, i32_w]
                    rfl
                   refine take_ (i := 29) (N := some 86) (v := ?_) (a' := ?_) zb30 rfl rfl (take_ofW HT_.out HW_.out (by kernel_rfl)) (fun _ _ _ h => h) (Or.inl ⟨by rfl, ?_⟩) hHeld ?_ ?_
                   rotate_left
                   ·rintro w' ⟨s0, s1, s2, s3, s4, s5, s6, s7, s8, s9, s10, s11, s12, s13⟩
                    go_simp
                    with_reducible rfl
                   rotate_left
                   ·simp only [Act.put, zT, zZ, zU, i64_w, i32_w]
                    rfl
                   refine pure_ (i := 30) (N := some 87) (v := ?_) (a' := ?_) zb31 rfl rfl (any_of HT_.out (by kernel_rfl)) (fun _ _ _ h => h) (Or.inl ⟨by rfl, ?_⟩) ?_ ?_
                   rotate_left
                   ·intro w'
                    go_simp
                    with_reducible rfl
                   rotate_left
                   ·simp only [Act.put, zT, zZ, zU, i64_w, i32_w]
                    rfl
                   refine pure_ (i := 31) (N := some 88) (v := ?_) (a' := ?_) zb32 rfl rfl (any_of HT_.out (by kernel_rfl)) (fun _ _ _ h => h) (Or.inl ⟨by rfl, ?_⟩) ?_ ?_
                   rotate_left
                   ·intro w'
                    go_simp
                    with_reducible rfl
                   rotate_left
                   ·simp only [Act.put, zT, zZ, zU, i64_w, i32_w]
                    rfl
                   refine done_ (done_of HT_.out (by kernel_rfl)) ?_
                   try go_wp2
                   go_roundg k3
                   case measure => have := HJ1.out; have := HK2.out; have := HK3.out; omega
                   case rel => exact ⟨(wrap64 (x52_3 + 1)), (by first | rfl | (simp; done) | (simp [*]; done)), H', ⟨by have := HJ1.out; have := HK2.out; have := HK3.out; omega⟩, ⟨by (with_reducible repeat (first | refine zN ?_ _ | refine zD ?_ | refine zA ?_ _)); exact BK102.out⟩, ⟨by repeat (first | (with_reducible first | exact HB.out | apply zL | apply zP | apply zW | refine zS ?_ GE102.out | refine zS ?_ GE108.out) | exact HB.out)⟩⟩
                 ·replace c41 := Bool.eq_false_iff.mpr c41
                  subst c41
                  have H1 : (some false) = some r := by rw [if_neg (show ¬ (false = true) by decide)] at H; exact H
                  clear H
                  have H := H1
                  clear H1
                  obtain rfl := Option.some.inj H
                  have p107 : 0 ≤ (x52_3 : Int) := of_decide_eq_true (by first | (with_reducible assumption) | assumption)
                  have q107 : x52_3 < (l0_5.length : Int) := of_decide_eq_true (by first | (with_reducible assumption) | assumption)
                  obtain ⟨ad107, e107, hx107_0, hx107_1, hx107_2, hx107_3⟩ := at_T47 HR0_5.out x52_3 p107 q107
                  cases e107
                  replace hx107_0 := (HB.out.cell (World.block_lt_of_cell? w _ hx107_0)).trans hx107_0
                  replace hx107_1 := (HB.out.cell (World.block_lt_of_cell? w _ hx107_1)).trans hx107_1
                  replace hx107_2 := (HB.out.cell (World.block_lt_of_cell? w _ hx107_2)).trans hx107_2
                  replace hx107_3 := (HB.out.cell (World.block_lt_of_cell? w _ hx107_3)).trans hx107_3
                  replace p107 := eq_true p107
                  replace q107 := eq_true q107
                  try go_wp2_with (first | ((with_reducible refine gate_dst (N := 6) rfl ?_); (try (refine gate_guard (by rfl) ?_; dsimp only)); refine box_event ?hg (N := 6) ?hd (cs := #[.int .i64 0, .int .i64 0, .int .i64 0, .string (⟨#[]⟩ : ByteArray)]) (t := 47) ?hr ?_; (case hd => rfl); (case hg => rfl); (case hr => first | (go_simp; done) | (go_simp; rfl)); intro gb108 hg w55 hbox hb; have n0_ := zM (zB (g := gb102) (o := .cells #[.bool a0_0, .slice A0_1 l0_1.length c0_1, .int .i64 a0_2, .int .u64 a0_3, .int .u64 a0_4, .slice (some ad107) l0_5.length c0_5] 26 (0, 0)) (by (with_reducible repeat (first | refine zN ?_ _ | refine zD ?_ | refine zA ?_ _)); exact BK102.out) hb); have n1_ := zM (below_step (by repeat (first | (with_reducible first | exact HB.out | apply zL | apply zP | apply zW | refine zS ?_ GE102.out) | exact HB.out)) hb); have n2_ := zM (hbox); have n3_ := zM ((by rw [hg]; exact (below_size (by repeat (first | (with_reducible first | exact HB.out | apply zL | apply zP | apply zW | refine zS ?_ GE102.out) | exact HB.out))) : w.heap.size ≤ gb108)); have n4_ := zM ((by rw [hg]; exact (below_size (by repeat (first | (with_reducible first | exact HB.out | apply zL | apply zP | apply zW | refine zS ?_ GE102.out) | exact HB.out))) : w.heap.size ≤ gb108)); have n5_ := zM ((by rw [hg]; exact Nat.ne_of_lt (blk_lt (g := gb102) (o := .cells #[.bool a0_0, .slice A0_1 l0_1.length c0_1, .int .i64 a0_2, .int .u64 a0_3, .int .u64 a0_4, .slice (some ad107) l0_5.length c0_5] 26 (0, 0)) (by (with_reducible repeat (first | refine zN ?_ _ | refine zD ?_ | refine zA ?_ _)); exact BK102.out)) : gb102 ≠ gb108)); have n6_ := zM ((by rw [hg]; exact Nat.ne_of_gt (blk_lt (g := gb102) (o := .cells #[.bool a0_0, .slice A0_1 l0_1.length c0_1, .int .i64 a0_2, .int .u64 a0_3, .int .u64 a0_4, .slice (some ad107) l0_5.length c0_5] 26 (0, 0)) (by (with_reducible repeat (first | refine zN ?_ _ | refine zD ?_ | refine zA ?_ _)); exact BK102.out)) : gb108 ≠ gb102)); clear BK102; clear HB; have BK102 := n0_; have HB := n1_; have BK108 := n2_; have GW108 := n3_; have GE108 := n4_; have NB102_108 := n5_; have NB108_102 := n6_; clear n0_ n1_ n2_ n3_ n4_ n5_ n6_; clear hb hbox hg; have hnb56 := NB108_102.out; have hnc56 := NB102_108.out; have hcz57_0 : w55.cell? ⟨gb108, 0, none⟩ = some (.int .i64 0) := (zC BK108.out 0).trans rfl; have hcz57_1 : w55.cell? ⟨gb108, 1, none⟩ = some (.int .i64 0) := (zC BK108.out 1).trans rfl; have hcz57_2 : w55.cell? ⟨gb108, 2, none⟩ = some (.int .i64 0) := (zC BK108.out 2).trans rfl; have hcz57_3 : w55.cell? ⟨gb108, 3, none⟩ = some (.string (⟨#[]⟩ : ByteArray)) := (zC BK108.out 3).trans rfl; have hfz57_0 := zF BK108.out 0; have hfz57_1 := zF BK108.out 1; have hfz57_2 := zF BK108.out 2; have hfz57_3 := zF BK108.out 3))
                  have n0_ : Aside0 (((((w55.setCell ⟨gb108, 0, none⟩ (.int .i64 ((rd_T47 l0_5 x52_3).f0))).setCell ⟨gb108, 1, none⟩ (.int .i64 ((rd_T47 l0_5 x52_3).f1.f0))).setCell ⟨gb108, 2, none⟩ (.int .i64 ((rd_T47 l0_5 x52_3).f1.f1))).setCell ⟨gb108, 3, none⟩ (.string ((rd_T47 l0_5 x52_3).f1.f2))).heap[gb102]? = some (.cells #[.bool a0_0, .slice A0_1 l0_1.length c0_1, .int .i64 a0_2, .int .u64 a0_3, .int .u64 a0_4, .slice (some ad107) l0_5.length c0_5] 26 (0, 0))) := ⟨by (with_reducible repeat (first | refine zN ?_ _ | refine zD ?_ | refine zA ?_ _)); refine blk_far ?_ NB102_108.out _; (with_reducible repeat (first | refine zN ?_ _ | refine zD ?_ | refine zA ?_ _)); refine blk_far ?_ NB102_108.out _; (with_reducible repeat (first | refine zN ?_ _ | refine zD ?_ | refine zA ?_ _)); refine blk_far ?_ NB102_108.out _; (with_reducible repeat (first | refine zN ?_ _ | refine zD ?_ | refine zA ?_ _)); refine blk_far ?_ NB102_108.out _; (with_reducible repeat (first | refine zN ?_ _ | refine zD ?_ | refine zA ?_ _)); exact BK102.out⟩
                  have n1_ : Aside0 (((((w55.setCell ⟨gb108, 0, none⟩ (.int .i64 ((rd_T47 l0_5 x52_3).f0))).setCell ⟨gb108, 1, none⟩ (.int .i64 ((rd_T47 l0_5 x52_3).f1.f0))).setCell ⟨gb108, 2, none⟩ (.int .i64 ((rd_T47 l0_5 x52_3).f1.f1))).setCell ⟨gb108, 3, none⟩ (.string ((rd_T47 l0_5 x52_3).f1.f2))).heap[gb108]? = some (.cells #[.int .i64 ((rd_T47 l0_5 x52_3).f0), .int .i64 ((rd_T47 l0_5 x52_3).f1.f0), .int .i64 ((rd_T47 l0_5 x52_3).f1.f1), .string ((rd_T47 l0_5 x52_3).f1.f2)] 47 (0, 0))) := ⟨by (with_reducible repeat (first | refine zN ?_ _ | refine zD ?_ | refine zA ?_ _)); refine blk_put (cs := #[.int .i64 ((rd_T47 l0_5 x52_3).f0), .int .i64 ((rd_T47 l0_5 x52_3).f1.f0), .int .i64 ((rd_T47 l0_5 x52_3).f1.f1), .string (⟨#[]⟩ : ByteArray)]) ?_ 3 _ rfl; (with_reducible repeat (first | refine zN ?_ _ | refine zD ?_ | refine zA ?_ _)); refine blk_put (cs := #[.int .i64 ((rd_T47 l0_5 x52_3).f0), .int .i64 ((rd_T47 l0_5 x52_3).f1.f0), .int .i64 0, .string (⟨#[]⟩ : ByteArray)]) ?_ 2 _ rfl; (with_reducible repeat (first | refine zN ?_ _ | refine zD ?_ | refine zA ?_ _)); refine blk_put (cs := #[.int .i64 ((rd_T47 l0_5 x52_3).f0), .int .i64 0, .int .i64 0, .string (⟨#[]⟩ : ByteArray)]) ?_ 1 _ rfl; (with_reducible repeat (first | refine zN ?_ _ | refine zD ?_ | refine zA ?_ _)); refine blk_put (cs := #[.int .i64 0, .int .i64 0, .int .i64 0, .string (⟨#[]⟩ : ByteArray)]) ?_ 0 _ rfl; (with_reducible repeat (first | refine zN ?_ _ | refine zD ?_ | refine zA ?_ _)); exact BK108.out⟩
                  have n2_ : Aside0 (Below w.heap.size w ((((w55.setCell ⟨gb108, 0, none⟩ (.int .i64 ((rd_T47 l0_5 x52_3).f0))).setCell ⟨gb108, 1, none⟩ (.int .i64 ((rd_T47 l0_5 x52_3).f1.f0))).setCell ⟨gb108, 2, none⟩ (.int .i64 ((rd_T47 l0_5 x52_3).f1.f1))).setCell ⟨gb108, 3, none⟩ (.string ((rd_T47 l0_5 x52_3).f1.f2)))) := ⟨by repeat (first | (with_reducible first | exact HB.out | apply zL | apply zP | apply zW | refine zS ?_ GE102.out | refine zS ?_ GE108.out) | exact HB.out)⟩
                  (try clear BK102)
                  (try clear BK108)
                  (try clear HB)
                  generalize ((((w55.setCell ⟨gb108, 0, none⟩ (.int .i64 ((rd_T47 l0_5 x52_3).f0))).setCell ⟨gb108, 1, none⟩ (.int .i64 ((rd_T47 l0_5 x52_3).f1.f0))).setCell ⟨gb108, 2, none⟩ (.int .i64 ((rd_T47 l0_5 x52_3).f1.f1))).setCell ⟨gb108, 3, none⟩ (.string ((rd_T47 l0_5 x52_3).f1.f2))) = w58 at n0_ n1_ n2_ ⊢
                  have BK102 := n0_
                  have BK108 := n1_
                  have HB := n2_
                  clear n0_ n1_ n2_
                  have n0_ := zM (zD BK102.out)
                  have n1_ := zM (zD BK108.out)
                  have n2_ := zM (zW HB.out)
                  clear BK102
                  clear BK108
                  clear HB
                  have BK102 := n0_
                  have BK108 := n1_
                  have HB := n2_
                  clear n0_ n1_ n2_
                  have p110 : 0 ≤ ((ji31) : Int) := of_decide_eq_true (by first | (with_reducible assumption) | assumption)
                  have q110 : (ji31) < (l0_5.length : Int) := of_decide_eq_true (by first | (with_reducible assumption) | assumption)
                  obtain ⟨ad110, e110, hx110_0, hx110_1, hx110_2, hx110_3⟩ := at_T47 HR0_5.out (ji31) p110 q110
                  have hw110_3 := hx110_3
                  have hw110_2 := hx110_2
                  have hw110_1 := hx110_1
                  have hw110_0 := hx110_0
                  obtain rfl : ad107 = ad110 := (by injection e110)
                  replace hx110_0 := (HB.out.cell (World.block_lt_of_cell? w _ hx110_0)).trans hx110_0
                  replace hx110_1 := (HB.out.cell (World.block_lt_of_cell? w _ hx110_1)).trans hx110_1
                  replace hx110_2 := (HB.out.cell (World.block_lt_of_cell? w _ hx110_2)).trans hx110_2
                  replace hx110_3 := (HB.out.cell (World.block_lt_of_cell? w _ hx110_3)).trans hx110_3
                  replace p110 := eq_true p110
                  replace q110 := eq_true q110
                  refine start_ (n := 32) (S := fun w' => w'.cell? ⟨gb108, 0, none⟩ = some (.int .i64 ((rd_T47 l0_5 x52_3).f0)) ∧ w'.cell? ⟨gb108, 1, none⟩ = some (.int .i64 ((rd_T47 l0_5 x52_3).f1.f0)) ∧ w'.cell? ⟨gb108, 2, none⟩ = some (.int .i64 ((rd_T47 l0_5 x52_3).f1.f1)) ∧ w'.cell? ⟨gb108, 3, none⟩ = some (.string ((rd_T47 l0_5 x52_3).f1.f2)) ∧ w'.cell? ⟨gb102, 0, none⟩ = some (.bool a0_0) ∧ w'.cell? ⟨gb102, 1, none⟩ = some (.slice A0_1 l0_1.length c0_1) ∧ w'.cell? ⟨gb102, 2, none⟩ = some (.int .i64 a0_2) ∧ w'.cell? ⟨gb102, 3, none⟩ = some (.int .u64 a0_3) ∧ w'.cell? ⟨gb102, 4, none⟩ = some (.int .u64 a0_4) ∧ w'.cell? ⟨gb102, 5, none⟩ = some (.slice (some ad107) l0_5.length c0_5) ∧ w'.cell? (ad107.add (((ji31)).toNat * 4)) = some (.int .i64 ((rd_T47 l0_5 (ji31)).f0)) ∧ w'.cell? ⟨(ad107.add (((ji31)).toNat * 4)).block, (ad107.add (((ji31)).toNat * 4)).off + 1, none⟩ = some (.int .i64 ((rd_T47 l0_5 (ji31)).f1.f0)) ∧ w'.cell? ⟨(ad107.add (((ji31)).toNat * 4)).block, (ad107.add (((ji31)).toNat * 4)).off + 2, none⟩ = some (.int .i64 ((rd_T47 l0_5 (ji31)).f1.f1)) ∧ w'.cell? ⟨(ad107.add (((ji31)).toNat * 4)).block, (ad107.add (((ji31)).toNat * 4)).off + 3, none⟩ = some (.string ((rd_T47 l0_5 (ji31)).f1.f2))) (ds := []) zb0 (by kernel_rfl) rfl rfl ⟨(zC BK108.out 0).trans rfl, (zC BK108.out 1).trans rfl, (zC BK108.out 2).trans rfl, (zC BK108.out 3).trans rfl, (zC BK102.out 0).trans rfl, (zC BK102.out 1).trans rfl, (zC BK102.out 2).trans rfl, (zC BK102.out 3).trans rfl, (zC BK102.out 4).trans rfl, (zC BK102.out 5).trans rfl, ((HB.out.cell (World.block_lt_of_cell? w _ hw110_0)).trans hw110_0), ((HB.out.cell (World.block_lt_of_cell? w _ hw110_1)).trans hw110_1), ((HB.out.cell (World.block_lt_of_cell? w _ hw110_2)).trans hw110_2), ((HB.out.cell (World.block_lt_of_cell? w _ hw110_3)).trans hw110_3)⟩ (fun hHeld => ?_); refine with_tabW record_May.tab12 record_May.bits12 (fun HT_ HW_ => ?_)
                  generalize w58.drew = w59 at BK102 BK108 HB hx110_0 hx110_1 hx110_2 hx110_3 hHeld ⊢
                  refine pure_ (i := 0) (N := some 57) (v := ?_) (a' := ?_) zb1 rfl rfl (any_of HT_.out (by kernel_rfl)) (fun _ _ _ h => h) (Or.inl ⟨by rfl, ?_⟩) ?_ ?_
                  rotate_left
                  ·intro w'
                   go_simp
                   with_reducible rfl
                  rotate_left
                  ·simp only [Act.put, zT, zZ, zU, i64_w, i32_w]
                   rfl
                  refine take_ (i := 1) (N := some 58) (v := ?_) (a' := ?_) zb2 rfl rfl (take_ofW HT_.out HW_.out (by kernel_rfl)) (fun _ _ _ h => h) (Or.inl ⟨by rfl, ?_⟩) hHeld ?_ ?_
                  rotate_left
                  ·rintro w' ⟨s0, s1, s2, s3, s4, s5, s6, s7, s8, s9, s10, s11, s12, s13⟩
                   go_simp
                   with_reducible rfl
                  rotate_left
                  ·simp only [Act.put, zT, zZ, zU, i64_w, i32_w]
                   rfl
                  refine one_ (i := 2) (N := some 59) zb3 rfl rfl (one_of HT_.out (by kernel_rfl)) (by decide) (fun K hK => ?_)
                  refine goes_ Tryd.func32 (by kernel_rfl) rfl #[.int .i64 ((rd_T47 l0_5 x52_3).f0)] (by rfl) rfl rfl (by (try simp only [zY, List.map_cons, List.map_nil]); first | done | rfl | (simp only [zV, zX]; rfl)) ?_
                  with_reducible refine (record_number.calls ((rd_T47 l0_5 x52_3).f0) true _ A28.out).mono ?_
                  rintro e w' ⟨rfl, ⟨nd, rfl⟩⟩
                  refine ⟨_, rfl, ?_⟩
                  refine hK.out _ _ ⟨(zC BK108.out 0).trans rfl, (zC BK108.out 1).trans rfl, (zC BK108.out 2).trans rfl, (zC BK108.out 3).trans rfl, (zC BK102.out 0).trans rfl, (zC BK102.out 1).trans rfl, (zC BK102.out 2).trans rfl, (zC BK102.out 3).trans rfl, (zC BK102.out 4).trans rfl, (zC BK102.out 5).trans rfl, ((HB.out.cell (World.block_lt_of_cell? w _ hw110_0)).trans hw110_0), ((HB.out.cell (World.block_lt_of_cell? w _ hw110_1)).trans hw110_1), ((HB.out.cell (World.block_lt_of_cell? w _ hw110_2)).trans hw110_2), ((HB.out.cell (World.block_lt_of_cell? w _ hw110_3)).trans hw110_3)⟩ (fun hHeld => ?_)
                  clear hK K
                  refine norm_ (a' := ?_) ?_ ?_
                  rotate_left
                  ·show Act.put _ (some 59) _ = _
                   simp only [Act.put, zT, zZ, zU, i64_w, i32_w]
                   rfl
                  refine pure_ (i := 3) (N := some 60) (v := ?_) (a' := ?_) zb4 rfl rfl (any_of HT_.out (by kernel_rfl)) (fun _ _ _ h => h) (Or.inl ⟨by rfl, ?_⟩) ?_ ?_
                  rotate_left
                  ·intro w'
                   go_simp
                   with_reducible rfl
                  rotate_left
                  ·simp only [Act.put, zT, zZ, zU, i64_w, i32_w]
                   rfl
                  refine pure_ (i := 4) (N := some 61) (v := ?_) (a' := ?_) zb5 rfl rfl (any_of HT_.out (by kernel_rfl)) (fun _ _ _ h => h) (Or.inl ⟨by rfl, ?_⟩) ?_ ?_
                  rotate_left
                  ·intro w'
                   go_simp
                   with_reducible rfl
                  rotate_left
                  ·simp only [Act.put, zT, zZ, zU, i64_w, i32_w]
                   rfl
                  refine pure_ (i := 5) (N := some 62) (v := ?_) (a' := ?_) zb6 rfl rfl (any_of HT_.out (by kernel_rfl)) (fun _ _ _ h => h) (Or.inl ⟨by rfl, ?_⟩) ?_ ?_
                  rotate_left
                  ·intro w'
                   go_simp
                   with_reducible rfl
                  rotate_left
                  ·simp only [Act.put, zT, zZ, zU, i64_w, i32_w]
                   rfl
                  refine pure_ (i := 6) (N := some 63) (v := ?_) (a' := ?_) zb7 rfl rfl (any_of HT_.out (by kernel_rfl)) (fun _ _ _ h => h) (Or.inl ⟨by rfl, ?_⟩) ?_ ?_
                  rotate_left
                  ·intro w'
                   go_simp
                   with_reducible rfl
                  rotate_left
                  ·simp only [Act.put, zT, zZ, zU, i64_w, i32_w]
                   rfl
                  refine pure_ (i := 7) (N := some 64) (v := ?_) (a' := ?_) zb8 rfl rfl (any_of HT_.out (by kernel_rfl)) (fun _ _ _ h => h) (Or.inl ⟨by rfl, ?_⟩) ?_ ?_
                  rotate_left
                  ·intro w'
                   go_simp
                   with_reducible rfl
                  rotate_left
                  ·simp only [Act.put, zT, zZ, zU, i64_w, i32_w]
                   rfl
                  refine pure_ (i := 8) (N := some 65) (v := ?_) (a' := ?_) zb9 rfl rfl (any_of HT_.out (by kernel_rfl)) (fun _ _ _ h => h) (Or.inl ⟨by rfl, ?_⟩) ?_ ?_
                  rotate_left
                  ·intro w'
                   go_simp
                   with_reducible rfl
                  rotate_left
                  ·simp only [Act.put, zT, zZ, zU, i64_w, i32_w]
                   rfl
                  refine pure_ (i := 10) (N := some 67) (v := ?_) (a' := ?_) zb10 rfl rfl (any_of HT_.out (by kernel_rfl)) (fun _ _ _ h => h) (Or.inl ⟨by rfl, ?_⟩) ?_ ?_
                  rotate_left
                  ·intro w'
                   go_simp
                   with_reducible rfl
                  rotate_left
                  ·simp only [Act.put, zT, zZ, zU, i64_w, i32_w]
                   rfl
                  refine pure_ (i := 12) (N := some 69) (v := ?_) (a' := ?_) zb11 rfl rfl (any_of HT_.out (by kernel_rfl)) (fun _ _ _ h => h) (Or.inl ⟨by rfl, ?_⟩) ?_ ?_
                  rotate_left
                  ·intro w'
                   go_simp
                   with_reducible rfl
                  rotate_left
                  ·simp only [Act.put, zT, zZ, zU, i64_w, i32_w]
                   rfl
                  refine pure_ (i := 13) (N := some 70) (v := ?_) (a' := ?_) zb12 rfl rfl (any_of HT_.out (by kernel_rfl)) (fun _ _ _ h => h) (Or.inl ⟨by rfl, ?_⟩) ?_ ?_
                  rotate_left
                  ·intro w'
                   go_simp
                   with_reducible rfl
                  rotate_left
                  ·simp only [Act.put, zT, zZ, zU, i64_w, i32_w]
                   rfl
                  refine take_ (i := 9) (N := some 66) (v := ?_) (a' := ?_) zb13 rfl rfl (take_ofW HT_.out HW_.out (by kernel_rfl)) (fun _ _ _ h => h) (Or.inl ⟨by rfl, ?_⟩) hHeld ?_ ?_
                  rotate_left
                  ·rintro w' ⟨s0, s1, s2, s3, s4, s5, s6, s7, s8, s9, s10, s11, s12, s13⟩
                   go_simp
                   with_reducible rfl
                  rotate_left
                  ·simp only [Act.put, zT, zZ, zU, i64_w, i32_w]
                   rfl
                  refine take_ (i := 11) (N := some 68) (v := ?_) (a' := ?_) zb14 rfl rfl (take_ofW HT_.out HW_.out (by kernel_rfl)) (fun _ _ _ h => h) (Or.inl ⟨by rfl, ?_⟩) hHeld ?_ ?_
                  rotate_left
                  ·rintro w' ⟨s0, s1, s2, s3, s4, s5, s6, s7, s8, s9, s10, s11, s12, s13⟩
                   go_simp
                   with_reducible rfl
                  rotate_left
                  ·simp only [Act.put, zT, zZ, zU, i64_w, i32_w]
                   rfl
                  refine pure_ (i := 14) (N := some 71) (v := ?_) (a' := ?_) zb15 rfl rfl (any_of HT_.out (by kernel_rfl)) (fun _ _ _ h => h) (Or.inl ⟨by rfl, ?_⟩) ?_ ?_
                  rotate_left
                  ·intro w'
                   go_simp
                   with_reducible rfl
                  rotate_left
                  ·simp only [Act.put, zT, zZ, zU, i64_w, i32_w]
                   rfl
                  refine pure_ (i := 15) (N := some 72) (v := ?_) (a' := ?_) zb16 rfl rfl (any_of HT_.out (by kernel_rfl)) (fun _ _ _ h => h) (Or.inl ⟨by rfl, ?_⟩) ?_ ?_
                  rotate_left
                  ·intro w'
                   go_simp
                   with_reducible rfl
                  rotate_left
                  ·simp only [Act.put, zT, zZ, zU, i64_w, i32_w]
                   rfl
                  refine take_ (i := 16) (N := some 73) (v := ?_) (a' := ?_) zb17 rfl rfl (take_ofW HT_.out HW_.out (by kernel_rfl)) (fun _ _ _ h => h) (Or.inl ⟨by rfl, ?_⟩) hHeld ?_ ?_
                  rotate_left
                  ·rintro w' ⟨s0, s1, s2, s3, s4, s5, s6, s7, s8, s9, s10, s11, s12, s13⟩
                   go_simp
                   with_reducible rfl
                  rotate_left
                  ·simp only [Act.put, zT, zZ, zU, i64_w, i32_w]
                   rfl
                  refine pure_ (i := 17) (N := some 74) (v := ?_) (a' := ?_) zb18 rfl rfl (any_of HT_.out (by kernel_rfl)) (fun _ _ _ h => h) (Or.inl ⟨by rfl, ?_⟩) ?_ ?_
                  rotate_left
                  ·intro w'
                   go_simp
                   with_reducible rfl
                  rotate_left
                  ·simp only [Act.put, zT, zZ, zU, i64_w, i32_w]
                   rfl
                  refine pure_ (i := 18) (N := some 75) (v := ?_) (a' := ?_) zb19 rfl rfl (any_of HT_.out (by kernel_rfl)) (fun _ _ _ h => h) (Or.inl ⟨by rfl, ?_⟩) ?_ ?_
                  rotate_left
                  ·intro w'
                   go_simp
                   with_reducible rfl
                  rotate_left
                  ·simp only [Act.put, zT, zZ, zU, i64_w, i32_w]
                   rfl
                  refine pure_ (i := 19) (N := some 76) (v := ?_) (a' := ?_) zb20 rfl rfl (any_of HT_.out (by kernel_rfl)) (fun _ _ _ h => h) (Or.inl ⟨by rfl, ?_⟩) ?_ ?_
                  rotate_left
                  ·intro w'
                   go_simp
                   with_reducible rfl
                  rotate_left
                  ·simp only [Act.put, zT, zZ, zU, i64_w, i32_w]
                   rfl
                  refine pure_ (i := 20) (N := some 77) (v := ?_) (a' := ?_) zb21 rfl rfl (any_of HT_.out (by kernel_rfl)) (fun _ _ _ h => h) (Or.inl ⟨by rfl, ?_⟩) ?_ ?_
                  rotate_left
                  ·intro w'
                   go_simp
                   with_reducible rfl
                  rotate_left
                  ·simp only [Act.put, zT, zZ, zU, i64_w, i32_w]
                   rfl
                  refine pure_ (i := 21) (N := some 78) (v := ?_) (a' := ?_) zb22 rfl rfl (any_of HT_.out (by kernel_rfl)) (fun _ _ _ h => h) (Or.inl ⟨by rfl, ?_⟩) ?_ ?_
                  rotate_left
                  ·intro w'
                   go_simp
                   with_reducible rfl
                  rotate_left
                  ·simp only [Act.put, zT, zZ, zU, i64_w, i32_w]
                   rfl
                  refine take_ (i := 22) (N := some 79) (v := ?_) (a' := ?_) zb23 rfl rfl (take_ofW HT_.out HW_.out (by kernel_rfl)) (fun _ _ _ h => h) (Or.inl ⟨by rfl, ?_⟩) hHeld ?_ ?_
                  rotate_left
                  ·rintro w' ⟨s0, s1, s2, s3, s4, s5, s6, s7, s8, s9, s10, s11, s12, s13⟩
                   go_simp
                   with_reducible rfl
                  rotate_left
                  ·simp only [Act.put, zT, zZ, zU, i64_w, i32_w]
                   rfl
                  refine one_ (i := 23) (N := some 80) zb24 rfl rfl (one_of HT_.out (by kernel_rfl)) (by decide) (fun K hK => ?_)
                  refine goes_ Tryd.func33 (by kernel_rfl) rfl #[.agg #[.int .i64 ((rd_T47 l0_5 x52_3).f1.f0), .int .i64 ((rd_T47 l0_5 x52_3).f1.f1), .string ((rd_T47 l0_5 x52_3).f1.f2)]] (by rfl) rfl rfl (by (try simp only [zY, List.map_cons, List.map_nil]); first | done | rfl | (simp only [zV, zX]; rfl)) ?_
                  with_reducible refine (value_May.calls ((rd_T47 l0_5 x52_3).f1.f0) ((rd_T47 l0_5 x52_3).f1.f1) ((rd_T47 l0_5 x52_3).f1.f2) false _ A40.out).mono ?_
                  rintro e w60 ⟨rfl, hb⟩
                  refine ⟨_, rfl, ?_⟩
                  have n0_ := zM (zB (g := gb102) (o := .cells #[.bool a0_0, .slice A0_1 l0_1.length c0_1, .int .i64 a0_2, .int .u64 a0_3, .int .u64 a0_4, .slice (some ad107) l0_5.length c0_5] 26 (0, 0)) (by (with_reducible repeat (first | refine zN ?_ _ | refine zD ?_ | refine zA ?_ _)); exact BK102.out) hb)
                  have n1_ := zM (zB (g := gb108) (o := .cells #[.int .i64 ((rd_T47 l0_5 x52_3).f0), .int .i64 ((rd_T47 l0_5 x52_3).f1.f0), .int .i64 ((rd_T47 l0_5 x52_3).f1.f1), .string ((rd_T47 l0_5 x52_3).f1.f2)] 47 (0, 0)) (by (with_reducible repeat (first | refine zN ?_ _ | refine zD ?_ | refine zA ?_ _)); exact BK108.out) hb)
                  have n2_ := zM (below_step (by repeat (first | (with_reducible first | exact HB.out | apply zL | apply zP | apply zW | refine zS ?_ GE102.out | refine zS ?_ GE108.out) | exact HB.out)) hb)
                  clear BK102
                  clear BK108
                  clear HB
                  have BK102 := n0_
                  have BK108 := n1_
                  have HB := n2_
                  clear n0_ n1_ n2_
                  (try clear hb)
                  (try clear hb2)
                  (try clear hk)
                  (try clear hi)
                  refine hK.out _ _ ⟨(zC BK108.out 0).trans rfl, (zC BK108.out 1).trans rfl, (zC BK108.out 2).trans rfl, (zC BK108.out 3).trans rfl, (zC BK102.out 0).trans rfl, (zC BK102.out 1).trans rfl, (zC BK102.out 2).trans rfl, (zC BK102.out 3).trans rfl, (zC BK102.out 4).trans rfl, (zC BK102.out 5).trans rfl, ((HB.out.cell (World.block_lt_of_cell? w _ hw110_0)).trans hw110_0), ((HB.out.cell (World.block_lt_of_cell? w _ hw110_1)).trans hw110_1), ((HB.out.cell (World.block_lt_of_cell? w _ hw110_2)).trans hw110_2), ((HB.out.cell (World.block_lt_of_cell? w _ hw110_3)).trans hw110_3)⟩ (fun hHeld => ?_)
                  clear hK K
                  refine norm_ (a' := ?_) ?_ ?_
                  rotate_left
                  ·show Act.put _ (some 80) _ = _
                   simp only [Act.put, zT, zZ, zU, i64_w, i32_w]
                   rfl
                  refine pure_ (i := 24) (N := some 81) (v := ?_) (a' := ?_) zb25 rfl rfl (any_of HT_.out (by kernel_rfl)) (fun _ _ _ h => h) (Or.inl ⟨by rfl, ?_⟩) ?_ ?_
                  rotate_left
                  ·intro w'
                   go_simp
                   with_reducible rfl
                  rotate_left
                  ·simp only [Act.put, zT, zZ, zU, i64_w, i32_w]
                   rfl
                  refine pure_ (i := 25) (N := some 82) (v := ?_) (a' := ?_) zb26 rfl rfl (any_of HT_.out (by kernel_rfl)) (fun _ _ _ h => h) (Or.inl ⟨by rfl, ?_⟩) ?_ ?_
                  rotate_left
                  ·intro w'
                   go_simp
                   with_reducible rfl
                  rotate_left
                  ·simp only [Act.put, zT, zZ, zU, i64_w, i32_w]
                   rfl
                  refine pure_ (i := 26) (N := some 83) (v := ?_) (a' := ?_) zb27 rfl rfl (any_of HT_.out (by kernel_rfl)) (fun _ _ _ h => h) (Or.inl ⟨by rfl, ?_⟩) ?_ ?_
                  rotate_left
                  ·intro w'
                   go_simp
                   with_reducible rfl
                  rotate_left
                  ·simp only [Act.put, zT, zZ, zU, i64_w, i32_w]
                   rfl
                  refine pure_ (i := 27) (N := some 84) (v := undef) (a' := ?_) zb28 rfl rfl (any_of HT_.out (by kernel_rfl)) (fun _ _ _ h => h) (Or.inr ⟨by rfl, rfl⟩) ?_ ?_
                  rotate_left
                  ·simp only [Act.put, zT, zZ, zU, i64_w, i32_w]
                   rfl
                  refine pure_ (i := 28) (N := some 85) (v := undef) (a' := ?_) zb29 rfl rfl (any_of HT_.out (by kernel_rfl)) (fun _ _ _ h => h) (Or.inr ⟨by rfl, rfl⟩) ?_ ?_
                  rotate_left
                  ·simp only [Act.put, zT, zZ, zU, i64_w, i32_w]
                   rfl
                  refine pure_ (i := 29) (N := some 86) (v := undef) (a' := ?_) zb30 rfl rfl (any_of HT_.out (by kernel_rfl)) (fun _ _ _ h => h) (Or.inr ⟨by rfl, rfl⟩) ?_ ?_
                  rotate_left
                  ·simp only [Act.put, zT, zZ, zU, i64_w, i32_w]
                   rfl
                  refine pure_ (i := 30) (N := some 87) (v := undef) (a' := ?_) zb31 rfl rfl (any_of HT_.out (by kernel_rfl)) (fun _ _ _ h => h) (Or.inr ⟨by rfl, rfl⟩) ?_ ?_
                  rotate_left
                  ·simp only [Act.put, zT, zZ, zU, i64_w, i32_w]
                   rfl
                  refine pure_ (i := 31) (N := some 88) (v := ?_) (a' := ?_) zb32 rfl rfl (any_of HT_.out (by kernel_rfl)) (fun _ _ _ h => h) (Or.inl ⟨by rfl, ?_⟩) ?_ ?_
                  rotate_left
                  ·intro w'
                   go_simp
                   with_reducible rfl
                  rotate_left
                  ·simp only [Act.put, zT, zZ, zU, i64_w, i32_w]
                   rfl
                  refine done_ (done_of HT_.out (by kernel_rfl)) ?_
                  try go_wp2
                  go_ret
                  exact ⟨by first | rfl | (simp [errW_none, errW_some] <;> rfl) | (simp only [← hji31]; first | rfl | (simp [errW_none, errW_some] <;> rfl)) | (simp [*, errW_none, errW_some] <;> rfl), by repeat (first | (with_reducible first | exact HB.out | apply zL | apply zP | apply zW | refine zS ?_ GE102.out | refine zS ?_ GE108.out) | exact HB.out)⟩
               ·rw [if_neg c33] at H
                exact absurd H (by simp)
              ·rw [if_neg c32] at H
               exact absurd H (by simp)
             ·rw [if_neg c30] at H
              have c30b0 : decide (0 < x52_3) = false := decide_eq_false c30
              clear c30
              replace H := Option.bind_eq_some_iff.mp H
              obtain ⟨t112, A610, H⟩ := H
              replace H : (if t112 = true then (if ((rd_T47 l0_5 x52_3).f1.f0) = 0 then (some false) else (record_May.l1 k3 l0_5 (l0_5.length : Int) (wrap64 (x52_3 + 1)) a0_0 l0_1 a0_2 a0_3 a0_4 l0_5)) else (some false)) = some r := H
              have A61 := zM A610
              clear A610
              by_cases c62 : t112 = true
              ·subst c62
               have H1 : (if ((rd_T47 l0_5 x52_3).f1.f0) = 0 then (some false) else (record_May.l1 k3 l0_5 (l0_5.length : Int) (wrap64 (x52_3 + 1)) a0_0 l0_1 a0_2 a0_3 a0_4 l0_5)) = some r := by rw [if_pos rfl] at H; exact H
               clear H
               have H := H1
               clear H1
               by_cases c63 : ((rd_T47 l0_5 x52_3).f1.f0) = 0
               ·rw [if_pos c63] at H
                have c63b0 : (((rd_T47 l0_5 x52_3).f1.f0) == 0) = true := beq_iff_eq.mpr c63
                have c63b1 : (((rd_T47 l0_5 x52_3).f1.f0) != 0) = false := bne_eq_false_iff_eq.mpr c63
                clear c63
                obtain rfl := Option.some.inj H
                have p107 : 0 ≤ (x52_3 : Int) := of_decide_eq_true (by first | (with_reducible assumption) | assumption)
                have q107 : x52_3 < (l0_5.length : Int) := of_decide_eq_true (by first | (with_reducible assumption) | assumption)
                obtain ⟨ad107, e107, hx107_0, hx107_1, hx107_2, hx107_3⟩ := at_T47 HR0_5.out x52_3 p107 q107
                cases e107
                replace hx107_0 := (HB.out.cell (World.block_lt_of_cell? w _ hx107_0)).trans hx107_0
                replace hx107_1 := (HB.out.cell (World.block_lt_of_cell? w _ hx107_1)).trans hx107_1
                replace hx107_2 := (HB.out.cell (World.block_lt_of_cell? w _ hx107_2)).trans hx107_2
                replace hx107_3 := (HB.out.cell (World.block_lt_of_cell? w _ hx107_3)).trans hx107_3
                replace p107 := eq_true p107
                replace q107 := eq_true q107
                try go_wp2_with (first | ((with_reducible refine gate_dst (N := 6) rfl ?_); (try (refine gate_guard (by rfl) ?_; dsimp only)); refine box_event ?hg (N := 6) ?hd (cs := #[.int .i64 0, .int .i64 0, .int .i64 0, .string (⟨#[]⟩ : ByteArray)]) (t := 47) ?hr ?_; (case hd => rfl); (case hg => rfl); (case hr => first | (go_simp; done) | (go_simp; rfl)); intro gb108 hg w64 hbox hb; have n0_ := zM (zB (g := gb102) (o := .cells #[.bool a0_0, .slice A0_1 l0_1.length c0_1, .int .i64 a0_2, .int .u64 a0_3, .int .u64 a0_4, .slice (some ad107) l0_5.length c0_5] 26 (0, 0)) (by (with_reducible repeat (first | refine zN ?_ _ | refine zD ?_ | refine zA ?_ _)); exact BK102.out) hb); have n1_ := zM (below_step (by repeat (first | (with_reducible first | exact HB.out | apply zL | apply zP | apply zW | refine zS ?_ GE102.out) | exact HB.out)) hb); have n2_ := zM (hbox); have n3_ := zM ((by rw [hg]; exact (below_size (by repeat (first | (with_reducible first | exact HB.out | apply zL | apply zP | apply zW | refine zS ?_ GE102.out) | exact HB.out))) : w.heap.size ≤ gb108)); have n4_ := zM ((by rw [hg]; exact (below_size (by repeat (first | (with_reducible first | exact HB.out | apply zL | apply zP | apply zW | refine zS ?_ GE102.out) | exact HB.out))) : w.heap.size ≤ gb108)); have n5_ := zM ((by rw [hg]; exact Nat.ne_of_lt (blk_lt (g := gb102) (o := .cells #[.bool a0_0, .slice A0_1 l0_1.length c0_1, .int .i64 a0_2, .int .u64 a0_3, .int .u64 a0_4, .slice (some ad107) l0_5.length c0_5] 26 (0, 0)) (by (with_reducible repeat (first | refine zN ?_ _ | refine zD ?_ | refine zA ?_ _)); exact BK102.out)) : gb102 ≠ gb108)); have n6_ := zM ((by rw [hg]; exact Nat.ne_of_gt (blk_lt (g := gb102) (o := .cells #[.bool a0_0, .slice A0_1 l0_1.length c0_1, .int .i64 a0_2, .int .u64 a0_3, .int .u64 a0_4, .slice (some ad107) l0_5.length c0_5] 26 (0, 0)) (by (with_reducible repeat (first | refine zN ?_ _ | refine zD ?_ | refine zA ?_ _)); exact BK102.out)) : gb108 ≠ gb102)); clear BK102; clear HB; have BK102 := n0_; have HB := n1_; have BK108 := n2_; have GW108 := n3_; have GE108 := n4_; have NB102_108 := n5_; have NB108_102 := n6_; clear n0_ n1_ n2_ n3_ n4_ n5_ n6_; clear hb hbox hg; have hnb65 := NB108_102.out; have hnc65 := NB102_108.out; have hcz66_0 : w64.cell? ⟨gb108, 0, none⟩ = some (.int .i64 0) := (zC BK108.out 0).trans rfl; have hcz66_1 : w64.cell? ⟨gb108, 1, none⟩ = some (.int .i64 0) := (zC BK108.out 1).trans rfl; have hcz66_2 : w64.cell? ⟨gb108, 2, none⟩ = some (.int .i64 0) := (zC BK108.out 2).trans rfl; have hcz66_3 : w64.cell? ⟨gb108, 3, none⟩ = some (.string (⟨#[]⟩ : ByteArray)) := (zC BK108.out 3).trans rfl; have hfz66_0 := zF BK108.out 0; have hfz66_1 := zF BK108.out 1; have hfz66_2 := zF BK108.out 2; have hfz66_3 := zF BK108.out 3))
                have n0_ : Aside0 (((((w64.setCell ⟨gb108, 0, none⟩ (.int .i64 ((rd_T47 l0_5 x52_3).f0))).setCell ⟨gb108, 1, none⟩ (.int .i64 ((rd_T47 l0_5 x52_3).f1.f0))).setCell ⟨gb108, 2, none⟩ (.int .i64 ((rd_T47 l0_5 x52_3).f1.f1))).setCell ⟨gb108, 3, none⟩ (.string ((rd_T47 l0_5 x52_3).f1.f2))).heap[gb102]? = some (.cells #[.bool a0_0, .slice A0_1 l0_1.length c0_1, .int .i64 a0_2, .int .u64 a0_3, .int .u64 a0_4, .slice (some ad107) l0_5.length c0_5] 26 (0, 0))) := ⟨by (with_reducible repeat (first | refine zN ?_ _ | refine zD ?_ | refine zA ?_ _)); refine blk_far ?_ NB102_108.out _; (with_reducible repeat (first | refine zN ?_ _ | refine zD ?_ | refine zA ?_ _)); refine blk_far ?_ NB102_108.out _; (with_reducible repeat (first | refine zN ?_ _ | refine zD ?_ | refine zA ?_ _)); refine blk_far ?_ NB102_108.out _; (with_reducible repeat (first | refine zN ?_ _ | refine zD ?_ | refine zA ?_ _)); refine blk_far ?_ NB102_108.out _; (with_reducible repeat (first | refine zN ?_ _ | refine zD ?_ | refine zA ?_ _)); exact BK102.out⟩
                have n1_ : Aside0 (((((w64.setCell ⟨gb108, 0, none⟩ (.int .i64 ((rd_T47 l0_5 x52_3).f0))).setCell ⟨gb108, 1, none⟩ (.int .i64 ((rd_T47 l0_5 x52_3).f1.f0))).setCell ⟨gb108, 2, none⟩ (.int .i64 ((rd_T47 l0_5 x52_3).f1.f1))).setCell ⟨gb108, 3, none⟩ (.string ((rd_T47 l0_5 x52_3).f1.f2))).heap[gb108]? = some (.cells #[.int .i64 ((rd_T47 l0_5 x52_3).f0), .int .i64 ((rd_T47 l0_5 x52_3).f1.f0), .int .i64 ((rd_T47 l0_5 x52_3).f1.f1), .string ((rd_T47 l0_5 x52_3).f1.f2)] 47 (0, 0))) := ⟨by (with_reducible repeat (first | refine zN ?_ _ | refine zD ?_ | refine zA ?_ _)); refine blk_put (cs := #[.int .i64 ((rd_T47 l0_5 x52_3).f0), .int .i64 ((rd_T47 l0_5 x52_3).f1.f0), .int .i64 ((rd_T47 l0_5 x52_3).f1.f1), .string (⟨#[]⟩ : ByteArray)]) ?_ 3 _ rfl; (with_reducible repeat (first | refine zN ?_ _ | refine zD ?_ | refine zA ?_ _)); refine blk_put (cs := #[.int .i64 ((rd_T47 l0_5 x52_3).f0), .int .i64 ((rd_T47 l0_5 x52_3).f1.f0), .int .i64 0, .string (⟨#[]⟩ : ByteArray)]) ?_ 2 _ rfl; (with_reducible repeat (first | refine zN ?_ _ | refine zD ?_ | refine zA ?_ _)); refine blk_put (cs := #[.int .i64 ((rd_T47 l0_5 x52_3).f0), .int .i64 0, .int .i64 0, .string (⟨#[]⟩ : ByteArray)]) ?_ 1 _ rfl; (with_reducible repeat (first | refine zN ?_ _ | refine zD ?_ | refine zA ?_ _)); refine blk_put (cs := #[.int .i64 0, .int .i64 0, .int .i64 0, .string (⟨#[]⟩ : ByteArray)]) ?_ 0 _ rfl; (with_reducible repeat (first | refine zN ?_ _ | refine zD ?_ | refine zA ?_ _)); exact BK108.out⟩
                have n2_ : Aside0 (Below w.heap.size w ((((w64.setCell ⟨gb108, 0, none⟩ (.int .i64 ((rd_T47 l0_5 x52_3).f0))).setCell ⟨gb108, 1, none⟩ (.int .i64 ((rd_T47 l0_5 x52_3).f1.f0))).setCell ⟨gb108, 2, none⟩ (.int .i64 ((rd_T47 l0_5 x52_3).f1.f1))).setCell ⟨gb108, 3, none⟩ (.string ((rd_T47 l0_5 x52_3).f1.f2)))) := ⟨by repeat (first | (with_reducible first | exact HB.out | apply zL | apply zP | apply zW | refine zS ?_ GE102.out | refine zS ?_ GE108.out) | exact HB.out)⟩
                (try clear BK102)
                (try clear BK108)
                (try clear HB)
                generalize ((((w64.setCell ⟨gb108, 0, none⟩ (.int .i64 ((rd_T47 l0_5 x52_3).f0))).setCell ⟨gb108, 1, none⟩ (.int .i64 ((rd_T47 l0_5 x52_3).f1.f0))).setCell ⟨gb108, 2, none⟩ (.int .i64 ((rd_T47 l0_5 x52_3).f1.f1))).setCell ⟨gb108, 3, none⟩ (.string ((rd_T47 l0_5 x52_3).f1.f2))) = w67 at n0_ n1_ n2_ ⊢
                have BK102 := n0_
                have BK108 := n1_
                have HB := n2_
                clear n0_ n1_ n2_
                have n0_ := zM (zD BK102.out)
                have n1_ := zM (zD BK108.out)
                have n2_ := zM (zW HB.out)
                clear BK102
                clear BK108
                clear HB
                have BK102 := n0_
                have BK108 := n1_
                have HB := n2_
                clear n0_ n1_ n2_
                refine start_ (n := 32) (S := fun w' => w'.cell? ⟨gb108, 0, none⟩ = some (.int .i64 ((rd_T47 l0_5 x52_3).f0)) ∧ w'.cell? ⟨gb108, 1, none⟩ = some (.int .i64 ((rd_T47 l0_5 x52_3).f1.f0)) ∧ w'.cell? ⟨gb108, 2, none⟩ = some (.int .i64 ((rd_T47 l0_5 x52_3).f1.f1)) ∧ w'.cell? ⟨gb108, 3, none⟩ = some (.string ((rd_T47 l0_5 x52_3).f1.f2))) (ds := []) zb0 (by kernel_rfl) rfl rfl ⟨(zC BK108.out 0).trans rfl, (zC BK108.out 1).trans rfl, (zC BK108.out 2).trans rfl, (zC BK108.out 3).trans rfl⟩ (fun hHeld => ?_); refine with_tabW record_May.tab12 record_May.bits12 (fun HT_ HW_ => ?_)
                generalize w67.drew = w68 at BK102 BK108 HB hHeld ⊢
                refine pure_ (i := 0) (N := some 57) (v := ?_) (a' := ?_) zb1 rfl rfl (any_of HT_.out (by kernel_rfl)) (fun _ _ _ h => h) (Or.inl ⟨by rfl, ?_⟩) ?_ ?_
                rotate_left
                ·intro w'
                 go_simp
                 with_reducible rfl
                rotate_left
                ·simp only [Act.put, zT, zZ, zU, i64_w, i32_w]
                 rfl
                refine take_ (i := 1) (N := some 58) (v := ?_) (a' := ?_) zb2 rfl rfl (take_ofW HT_.out HW_.out (by kernel_rfl)) (fun _ _ _ h => h) (Or.inl ⟨by rfl, ?_⟩) hHeld ?_ ?_
                rotate_left
                ·rintro w' ⟨s0, s1, s2, s3⟩
                 go_simp
                 with_reducible rfl
                rotate_left
                ·simp only [Act.put, zT, zZ, zU, i64_w, i32_w]
                 rfl
                refine one_ (i := 2) (N := some 59) zb3 rfl rfl (one_of HT_.out (by kernel_rfl)) (by decide) (fun K hK => ?_)
                refine goes_ Tryd.func32 (by kernel_rfl) rfl #[.int .i64 ((rd_T47 l0_5 x52_3).f0)] (by rfl) rfl rfl (by (try simp only [zY, List.map_cons, List.map_nil]); first | done | rfl | (simp only [zV, zX]; rfl)) ?_
                with_reducible refine (record_number.calls ((rd_T47 l0_5 x52_3).f0) true _ A28.out).mono ?_
                rintro e w' ⟨rfl, ⟨nd, rfl⟩⟩
                refine ⟨_, rfl, ?_⟩
                refine hK.out _ _ ⟨(zC BK108.out 0).trans rfl, (zC BK108.out 1).trans rfl, (zC BK108.out 2).trans rfl, (zC BK108.out 3).trans rfl⟩ (fun hHeld => ?_)
                clear hK K
                refine norm_ (a' := ?_) ?_ ?_
                rotate_left
                ·show Act.put _ (some 59) _ = _
                 simp only [Act.put, zT, zZ, zU, i64_w, i32_w]
                 rfl
                refine pure_ (i := 3) (N := some 60) (v := ?_) (a' := ?_) zb4 rfl rfl (any_of HT_.out (by kernel_rfl)) (fun _ _ _ h => h) (Or.inl ⟨by rfl, ?_⟩) ?_ ?_
                rotate_left
                ·intro w'
                 go_simp
                 with_reducible rfl
                rotate_left
                ·simp only [Act.put, zT, zZ, zU, i64_w, i32_w]
                 rfl
                refine pure_ (i := 4) (N := some 61) (v := ?_) (a' := ?_) zb5 rfl rfl (any_of HT_.out (by kernel_rfl)) (fun _ _ _ h => h) (Or.inl ⟨by rfl, ?_⟩) ?_ ?_
                rotate_left
                ·intro w'
                 go_simp
                 with_reducible rfl
                rotate_left
                ·simp only [Act.put, zT, zZ, zU, i64_w, i32_w]
                 rfl
                refine pure_ (i := 5) (N := some 62) (v := ?_) (a' := ?_) zb6 rfl rfl (any_of HT_.out (by kernel_rfl)) (fun _ _ _ h => h) (Or.inl ⟨by rfl, ?_⟩) ?_ ?_
                rotate_left
                ·intro w'
                 go_simp
                 with_reducible rfl
                rotate_left
                ·simp only [Act.put, zT, zZ, zU, i64_w, i32_w]
                 rfl
                refine pure_ (i := 6) (N := some 63) (v := ?_) (a' := ?_) zb7 rfl rfl (any_of HT_.out (by kernel_rfl)) (fun _ _ _ h => h) (Or.inl ⟨by rfl, ?_⟩) ?_ ?_
                rotate_left
                ·intro w'
                 go_simp
                 with_reducible rfl
                rotate_left
                ·simp only [Act.put, zT, zZ, zU, i64_w, i32_w]
                 rfl
                refine pure_ (i := 7) (N := some 64) (v := ?_) (a' := ?_) zb8 rfl rfl (any_of HT_.out (by kernel_rfl)) (fun _ _ _ h => h) (Or.inl ⟨by rfl, ?_⟩) ?_ ?_
                rotate_left
                ·intro w'
                 go_simp
                 with_reducible rfl
                rotate_left
                ·simp only [Act.put, zT, zZ, zU, i64_w, i32_w]
                 rfl
                refine pure_ (i := 8) (N := some 65) (v := undef) (a' := ?_) zb9 rfl rfl (any_of HT_.out (by kernel_rfl)) (fun _ _ _ h => h) (Or.inr ⟨by rfl, rfl⟩) ?_ ?_
                rotate_left
                ·simp only [Act.put, zT, zZ, zU, i64_w, i32_w]
                 rfl
                refine pure_ (i := 9) (N := some 66) (v := undef) (a' := ?_) zb33 rfl rfl (any_of HT_.out (by kernel_rfl)) (fun _ _ _ h => h) (Or.inr ⟨by rfl, rfl⟩) ?_ ?_
                rotate_left
                ·simp only [Act.put, zT, zZ, zU, i64_w, i32_w]
                 rfl
                refine pure_ (i := 10) (N := some 67) (v := undef) (a' := ?_) zb34 rfl rfl (any_of HT_.out (by kernel_rfl)) (fun _ _ _ h => h) (Or.inr ⟨by rfl, rfl⟩) ?_ ?_
                rotate_left
                ·simp only [Act.put, zT, zZ, zU, i64_w, i32_w]
                 rfl
                refine pure_ (i := 11) (N := some 68) (v := undef) (a' := ?_) zb35 rfl rfl (any_of HT_.out (by kernel_rfl)) (fun _ _ _ h => h) (Or.inr ⟨by rfl, rfl⟩) ?_ ?_
                rotate_left
                ·simp only [Act.put, zT, zZ, zU, i64_w, i32_w]
                 rfl
                refine pure_ (i := 12) (N := some 69) (v := undef) (a' := ?_) zb36 rfl rfl (any_of HT_.out (by kernel_rfl)) (fun _ _ _ h => h) (Or.inr ⟨by rfl, rfl⟩) ?_ ?_
                rotate_left
                ·simp only [Act.put, zT, zZ, zU, i64_w, i32_w]
                 rfl
                refine pure_ (i := 13) (N := some 70) (v := undef) (a' := ?_) zb14 rfl rfl (any_of HT_.out (by kernel_rfl)) (fun _ _ _ h => h) (Or.inr ⟨by rfl, rfl⟩) ?_ ?_
                rotate_left
                ·simp only [Act.put, zT, zZ, zU, i64_w, i32_w]
                 rfl
                refine pure_ (i := 14) (N := some 71) (v := undef) (a' := ?_) zb15 rfl rfl (any_of HT_.out (by kernel_rfl)) (fun _ _ _ h => h) (Or.inr ⟨by rfl, rfl⟩) ?_ ?_
                rotate_left
                ·simp only [Act.put, zT, zZ, zU, i64_w, i32_w]
                 rfl
                refine pure_ (i := 15) (N := some 72) (v := undef) (a' := ?_) zb16 rfl rfl (any_of HT_.out (by kernel_rfl)) (fun _ _ _ h => h) (Or.inr ⟨by rfl, rfl⟩) ?_ ?_
                rotate_left
                ·simp only [Act.put, zT, zZ, zU, i64_w, i32_w]
                 rfl
                refine pure_ (i := 16) (N := some 73) (v := undef) (a' := ?_) zb17 rfl rfl (any_of HT_.out (by kernel_rfl)) (fun _ _ _ h => h) (Or.inr ⟨by rfl, rfl⟩) ?_ ?_
                rotate_left
                ·simp only [Act.put, zT, zZ, zU, i64_w, i32_w]
                 rfl
                refine pure_ (i := 17) (N := some 74) (v := undef) (a' := ?_) zb18 rfl rfl (any_of HT_.out (by kernel_rfl)) (fun _ _ _ h => h) (Or.inr ⟨by rfl, rfl⟩) ?_ ?_
                rotate_left
                ·simp only [Act.put, zT, zZ, zU, i64_w, i32_w]
                 rfl
                refine pure_ (i := 18) (N := some 75) (v := ?_) (a' := ?_) zb19 rfl rfl (any_of HT_.out (by kernel_rfl)) (fun _ _ _ h => h) (Or.inl ⟨by rfl, ?_⟩) ?_ ?_
                rotate_left
                ·intro w'
                 go_simp
                 with_reducible rfl
                rotate_left
                ·simp only [Act.put, zT, zZ, zU, i64_w, i32_w]
                 rfl
                refine pure_ (i := 19) (N := some 76) (v := ?_) (a' := ?_) zb20 rfl rfl (any_of HT_.out (by kernel_rfl)) (fun _ _ _ h => h) (Or.inl ⟨by rfl, ?_⟩) ?_ ?_
                rotate_left
                ·intro w'
                 go_simp
                 with_reducible rfl
                rotate_left
                ·simp only [Act.put, zT, zZ, zU, i64_w, i32_w]
                 rfl
                refine pure_ (i := 20) (N := some 77) (v := ?_) (a' := ?_) zb21 rfl rfl (any_of HT_.out (by kernel_rfl)) (fun _ _ _ h => h) (Or.inl ⟨by rfl, ?_⟩) ?_ ?_
                rotate_left
                ·intro w'
                 go_simp
                 with_reducible rfl
                rotate_left
                ·simp only [Act.put, zT, zZ, zU, i64_w, i32_w]
                 rfl
                refine pure_ (i := 21) (N := some 78) (v := ?_) (a' := ?_) zb22 rfl rfl (any_of HT_.out (by kernel_rfl)) (fun _ _ _ h => h) (Or.inl ⟨by rfl, ?_⟩) ?_ ?_
                rotate_left
                ·intro w'
                 go_simp
                 with_reducible rfl
                rotate_left
                ·simp only [Act.put, zT, zZ, zU, i64_w, i32_w]
                 rfl
                refine take_ (i := 22) (N := some 79) (v := ?_) (a' := ?_) zb23 rfl rfl (take_ofW HT_.out HW_.out (by kernel_rfl)) (fun _ _ _ h => h) (Or.inl ⟨by rfl, ?_⟩) hHeld ?_ ?_
                rotate_left
                ·rintro w' ⟨s0, s1, s2, s3⟩
                 go_simp
                 with_reducible rfl
                rotate_left
                ·simp only [Act.put, zT, zZ, zU, i64_w, i32_w]
                 rfl
                refine one_ (i := 23) (N := some 80) zb24 rfl rfl (one_of HT_.out (by kernel_rfl)) (by decide) (fun K hK => ?_)
                refine goes_ Tryd.func33 (by kernel_rfl) rfl #[.agg #[.int .i64 ((rd_T47 l0_5 x52_3).f1.f0), .int .i64 ((rd_T47 l0_5 x52_3).f1.f1), .string ((rd_T47 l0_5 x52_3).f1.f2)]] (by rfl) rfl rfl (by (try simp only [zY, List.map_cons, List.map_nil]); first | done | rfl | (simp only [zV, zX]; rfl)) ?_
                with_reducible refine (value_May.calls ((rd_T47 l0_5 x52_3).f1.f0) ((rd_T47 l0_5 x52_3).f1.f1) ((rd_T47 l0_5 x52_3).f1.f2) true _ A61.out).mono ?_
                rintro e w69 ⟨rfl, hb⟩
                refine ⟨_, rfl, ?_⟩
                have n0_ := zM (zB (g := gb102) (o := .cells #[.bool a0_0, .slice A0_1 l0_1.length c0_1, .int .i64 a0_2, .int .u64 a0_3, .int .u64 a0_4, .slice (some ad107) l0_5.length c0_5] 26 (0, 0)) (by (with_reducible repeat (first | refine zN ?_ _ | refine zD ?_ | refine zA ?_ _)); exact BK102.out) hb)
                have n1_ := zM (zB (g := gb108) (o := .cells #[.int .i64 ((rd_T47 l0_5 x52_3).f0), .int .i64 ((rd_T47 l0_5 x52_3).f1.f0), .int .i64 ((rd_T47 l0_5 x52_3).f1.f1), .string ((rd_T47 l0_5 x52_3).f1.f2)] 47 (0, 0)) (by (with_reducible repeat (first | refine zN ?_ _ | refine zD ?_ | refine zA ?_ _)); exact BK108.out) hb)
                have n2_ := zM (below_step (by repeat (first | (with_reducible first | exact HB.out | apply zL | apply zP | apply zW | refine zS ?_ GE102.out | refine zS ?_ GE108.out) | exact HB.out)) hb)
                clear BK102
                clear BK108
                clear HB
                have BK102 := n0_
                have BK108 := n1_
                have HB := n2_
                clear n0_ n1_ n2_
                (try clear hb)
                (try clear hb2)
                (try clear hk)
                (try clear hi)
                refine hK.out _ _ ⟨(zC BK108.out 0).trans rfl, (zC BK108.out 1).trans rfl, (zC BK108.out 2).trans rfl, (zC BK108.out 3).trans rfl⟩ (fun hHeld => ?_)
                clear hK K
                refine norm_ (a' := ?_) ?_ ?_
                rotate_left
                ·show Act.put _ (some 80) _ = _
                 simp only [Act.put, zT, zZ, zU, i64_w, i32_w]
                 rfl
                refine pure_ (i := 24) (N := some 81) (v := ?_) (a' := ?_) zb25 rfl rfl (any_of HT_.out (by kernel_rfl)) (fun _ _ _ h => h) (Or.inl ⟨by rfl, ?_⟩) ?_ ?_
                rotate_left
                ·intro w'
                 go_simp
                 with_reducible rfl
                rotate_left
                ·simp only [Act.put, zT, zZ, zU, i64_w, i32_w]
                 rfl
                refine pure_ (i := 25) (N := some 82) (v := ?_) (a' := ?_) zb26 rfl rfl (any_of HT_.out (by kernel_rfl)) (fun _ _ _ h => h) (Or.inl ⟨by rfl, ?_⟩) ?_ ?_
                rotate_left
                ·intro w'
                 go_simp
                 with_reducible rfl
                rotate_left
                ·simp only [Act.put, zT, zZ, zU, i64_w, i32_w]
                 rfl
                refine pure_ (i := 26) (N := some 83) (v := ?_) (a' := ?_) zb27 rfl rfl (any_of HT_.out (by kernel_rfl)) (fun _ _ _ h => h) (Or.inl ⟨by rfl, ?_⟩) ?_ ?_
                rotate_left
                ·intro w'
                 go_simp
                 with_reducible rfl
                rotate_left
                ·simp only [Act.put, zT, zZ, zU, i64_w, i32_w]
                 rfl
                refine pure_ (i := 27) (N := some 84) (v := ?_) (a' := ?_) zb28 rfl rfl (any_of HT_.out (by kernel_rfl)) (fun _ _ _ h => h) (Or.inl ⟨by rfl, ?_⟩) ?_ ?_
                rotate_left
                ·intro w'
                 go_simp
                 with_reducible rfl
                rotate_left
                ·simp only [Act.put, zT, zZ, zU, i64_w, i32_w]
                 rfl
                refine pure_ (i := 28) (N := some 85) (v := ?_) (a' := ?_) zb29 rfl rfl (any_of HT_.out (by kernel_rfl)) (fun _ _ _ h => h) (Or.inl ⟨by rfl, ?_⟩) ?_ ?_
                rotate_left
                ·intro w'
                 go_simp
                 with_reducible rfl
                rotate_left
                ·simp only [Act.put, zT, zZ, zU, i64_w, i32_w]
                 rfl
                refine take_ (i := 29) (N := some 86) (v := ?_) (a' := ?_) zb30 rfl rfl (take_ofW HT_.out HW_.out (by kernel_rfl)) (fun _ _ _ h => h) (Or.inl ⟨by rfl, ?_⟩) hHeld ?_ ?_
                rotate_left
                ·rintro w' ⟨s0, s1, s2, s3⟩
                 go_simp
                 with_reducible rfl
                rotate_left
                ·simp only [Act.put, zT, zZ, zU, i64_w, i32_w]
                 rfl
                refine pure_ (i := 30) (N := some 87) (v := ?_) (a' := ?_) zb31 rfl rfl (any_of HT_.out (by kernel_rfl)) (fun _ _ _ h => h) (Or.inl ⟨by rfl, ?_⟩) ?_ ?_
                rotate_left
                ·intro w'
                 go_simp
                 with_reducible rfl
                rotate_left
                ·simp only [Act.put, zT, zZ, zU, i64_w, i32_w]
                 rfl
                refine pure_ (i := 31) (N := some 88) (v := ?_) (a' := ?_) zb32 rfl rfl (any_of HT_.out (by kernel_rfl)) (fun _ _ _ h => h) (Or.inl ⟨by rfl, ?_⟩) ?_ ?_
                rotate_left
                ·intro w'
                 go_simp
                 with_reducible rfl
                rotate_left
                ·simp only [Act.put, zT, zZ, zU, i64_w, i32_w]
                 rfl
                refine done_ (done_of HT_.out (by kernel_rfl)) ?_
                try go_wp2
                go_ret
                exact ⟨by first | rfl | (simp [errW_none, errW_some] <;> rfl) | (simp [*, errW_none, errW_some] <;> rfl), by repeat (first | (with_reducible first | exact HB.out | apply zL | apply zP | apply zW | refine zS ?_ GE102.out | refine zS ?_ GE108.out) | exact HB.out)⟩
               ·rw [if_neg c63] at H
                have c63b0 : (((rd_T47 l0_5 x52_3).f1.f0) == 0) = false := beq_eq_false_iff_ne.mpr c63
                have c63b1 : (((rd_T47 l0_5 x52_3).f1.f0) != 0) = true := bne_iff_ne.mpr c63
                have H' := zM H
                clear H
                have p107 : 0 ≤ (x52_3 : Int) := of_decide_eq_true (by first | (with_reducible assumption) | assumption)
                have q107 : x52_3 < (l0_5.length : Int) := of_decide_eq_true (by first | (with_reducible assumption) | assumption)
                obtain ⟨ad107, e107, hx107_0, hx107_1, hx107_2, hx107_3⟩ := at_T47 HR0_5.out x52_3 p107 q107
                cases e107
                replace hx107_0 := (HB.out.cell (World.block_lt_of_cell? w _ hx107_0)).trans hx107_0
                replace hx107_1 := (HB.out.cell (World.block_lt_of_cell? w _ hx107_1)).trans hx107_1
                replace hx107_2 := (HB.out.cell (World.block_lt_of_cell? w _ hx107_2)).trans hx107_2
                replace hx107_3 := (HB.out.cell (World.block_lt_of_cell? w _ hx107_3)).trans hx107_3
                replace p107 := eq_true p107
                replace q107 := eq_true q107
                try go_wp2_with (first | ((with_reducible refine gate_dst (N := 6) rfl ?_); (try (refine gate_guard (by rfl) ?_; dsimp only)); refine box_event ?hg (N := 6) ?hd (cs := #[.int .i64 0, .int .i64 0, .int .i64 0, .string (⟨#[]⟩ : ByteArray)]) (t := 47) ?hr ?_; (case hd => rfl); (case hg => rfl); (case hr => first | (go_simp; done) | (go_simp; rfl)); intro gb108 hg w70 hbox hb; have n0_ := zM (zB (g := gb102) (o := .cells #[.bool a0_0, .slice A0_1 l0_1.length c0_1, .int .i64 a0_2, .int .u64 a0_3, .int .u64 a0_4, .slice (some ad107) l0_5.length c0_5] 26 (0, 0)) (by (with_reducible repeat (first | refine zN ?_ _ | refine zD ?_ | refine zA ?_ _)); exact BK102.out) hb); have n1_ := zM (below_step (by repeat (first | (with_reducible first | exact HB.out | apply zL | apply zP | apply zW | refine zS ?_ GE102.out) | exact HB.out)) hb); have n2_ := zM (hbox); have n3_ := zM ((by rw [hg]; exact (below_size (by repeat (first | (with_reducible first | exact HB.out | apply zL | apply zP | apply zW | refine zS ?_ GE102.out) | exact HB.out))) : w.heap.size ≤ gb108)); have n4_ := zM ((by rw [hg]; exact (below_size (by repeat (first | (with_reducible first | exact HB.out | apply zL | apply zP | apply zW | refine zS ?_ GE102.out) | exact HB.out))) : w.heap.size ≤ gb108)); have n5_ := zM ((by rw [hg]; exact Nat.ne_of_lt (blk_lt (g := gb102) (o := .cells #[.bool a0_0, .slice A0_1 l0_1.length c0_1, .int .i64 a0_2, .int .u64 a0_3, .int .u64 a0_4, .slice (some ad107) l0_5.length c0_5] 26 (0, 0)) (by (with_reducible repeat (first | refine zN ?_ _ | refine zD ?_ | refine zA ?_ _)); exact BK102.out)) : gb102 ≠ gb108)); have n6_ := zM ((by rw [hg]; exact Nat.ne_of_gt (blk_lt (g := gb102) (o := .cells #[.bool a0_0, .slice A0_1 l0_1.length c0_1, .int .i64 a0_2, .int .u64 a0_3, .int .u64 a0_4, .slice (some ad107) l0_5.length c0_5] 26 (0, 0)) (by (with_reducible repeat (first | refine zN ?_ _ | refine zD ?_ | refine zA ?_ _)); exact BK102.out)) : gb108 ≠ gb102)); clear BK102; clear HB; have BK102 := n0_; have HB := n1_; have BK108 := n2_; have GW108 := n3_; have GE108 := n4_; have NB102_108 := n5_; have NB108_102 := n6_; clear n0_ n1_ n2_ n3_ n4_ n5_ n6_; clear hb hbox hg; have hnb71 := NB108_102.out; have hnc71 := NB102_108.out; have hcz72_0 : w70.cell? ⟨gb108, 0, none⟩ = some (.int .i64 0) := (zC BK108.out 0).trans rfl; have hcz72_1 : w70.cell? ⟨gb108, 1, none⟩ = some (.int .i64 0) := (zC BK108.out 1).trans rfl; have hcz72_2 : w70.cell? ⟨gb108, 2, none⟩ = some (.int .i64 0) := (zC BK108.out 2).trans rfl; have hcz72_3 : w70.cell? ⟨gb108, 3, none⟩ = some (.string (⟨#[]⟩ : ByteArray)) := (zC BK108.out 3).trans rfl; have hfz72_0 := zF BK108.out 0; have hfz72_1 := zF BK108.out 1; have hfz72_2 := zF BK108.out 2; have hfz72_3 := zF BK108.out 3))
                have n0_ : Aside0 (((((w70.setCell ⟨gb108, 0, none⟩ (.int .i64 ((rd_T47 l0_5 x52_3).f0))).setCell ⟨gb108, 1, none⟩ (.int .i64 ((rd_T47 l0_5 x52_3).f1.f0))).setCell ⟨gb108, 2, none⟩ (.int .i64 ((rd_T47 l0_5 x52_3).f1.f1))).setCell ⟨gb108, 3, none⟩ (.string ((rd_T47 l0_5 x52_3).f1.f2))).heap[gb102]? = some (.cells #[.bool a0_0, .slice A0_1 l0_1.length c0_1, .int .i64 a0_2, .int .u64 a0_3, .int .u64 a0_4, .slice (some ad107) l0_5.length c0_5] 26 (0, 0))) := ⟨by (with_reducible repeat (first | refine zN ?_ _ | refine zD ?_ | refine zA ?_ _)); refine blk_far ?_ NB102_108.out _; (with_reducible repeat (first | refine zN ?_ _ | refine zD ?_ | refine zA ?_ _)); refine blk_far ?_ NB102_108.out _; (with_reducible repeat (first | refine zN ?_ _ | refine zD ?_ | refine zA ?_ _)); refine blk_far ?_ NB102_108.out _; (with_reducible repeat (first | refine zN ?_ _ | refine zD ?_ | refine zA ?_ _)); refine blk_far ?_ NB102_108.out _; (with_reducible repeat (first | refine zN ?_ _ | refine zD ?_ | refine zA ?_ _)); exact BK102.out⟩
                have n1_ : Aside0 (((((w70.setCell ⟨gb108, 0, none⟩ (.int .i64 ((rd_T47 l0_5 x52_3).f0))).setCell ⟨gb108, 1, none⟩ (.int .i64 ((rd_T47 l0_5 x52_3).f1.f0))).setCell ⟨gb108, 2, none⟩ (.int .i64 ((rd_T47 l0_5 x52_3).f1.f1))).setCell ⟨gb108, 3, none⟩ (.string ((rd_T47 l0_5 x52_3).f1.f2))).heap[gb108]? = some (.cells #[.int .i64 ((rd_T47 l0_5 x52_3).f0), .int .i64 ((rd_T47 l0_5 x52_3).f1.f0), .int .i64 ((rd_T47 l0_5 x52_3).f1.f1), .string ((rd_T47 l0_5 x52_3).f1.f2)] 47 (0, 0))) := ⟨by (with_reducible repeat (first | refine zN ?_ _ | refine zD ?_ | refine zA ?_ _)); refine blk_put (cs := #[.int .i64 ((rd_T47 l0_5 x52_3).f0), .int .i64 ((rd_T47 l0_5 x52_3).f1.f0), .int .i64 ((rd_T47 l0_5 x52_3).f1.f1), .string (⟨#[]⟩ : ByteArray)]) ?_ 3 _ rfl; (with_reducible repeat (first | refine zN ?_ _ | refine zD ?_ | refine zA ?_ _)); refine blk_put (cs := #[.int .i64 ((rd_T47 l0_5 x52_3).f0), .int .i64 ((rd_T47 l0_5 x52_3).f1.f0), .int .i64 0, .string (⟨#[]⟩ : ByteArray)]) ?_ 2 _ rfl; (with_reducible repeat (first | refine zN ?_ _ | refine zD ?_ | refine zA ?_ _)); refine blk_put (cs := #[.int .i64 ((rd_T47 l0_5 x52_3).f0), .int .i64 0, .int .i64 0, .string (⟨#[]⟩ : ByteArray)]) ?_ 1 _ rfl; (with_reducible repeat (first | refine zN ?_ _ | refine zD ?_ | refine zA ?_ _)); refine blk_put (cs := #[.int .i64 0, .int .i64 0, .int .i64 0, .string (⟨#[]⟩ : ByteArray)]) ?_ 0 _ rfl; (with_reducible repeat (first | refine zN ?_ _ | refine zD ?_ | refine zA ?_ _)); exact BK108.out⟩
                have n2_ : Aside0 (Below w.heap.size w ((((w70.setCell ⟨gb108, 0, none⟩ (.int .i64 ((rd_T47 l0_5 x52_3).f0))).setCell ⟨gb108, 1, none⟩ (.int .i64 ((rd_T47 l0_5 x52_3).f1.f0))).setCell ⟨gb108, 2, none⟩ (.int .i64 ((rd_T47 l0_5 x52_3).f1.f1))).setCell ⟨gb108, 3, none⟩ (.string ((rd_T47 l0_5 x52_3).f1.f2)))) := ⟨by repeat (first | (with_reducible first | exact HB.out | apply zL | apply zP | apply zW | refine zS ?_ GE102.out | refine zS ?_ GE108.out) | exact HB.out)⟩
                (try clear BK102)
                (try clear BK108)
                (try clear HB)
                generalize ((((w70.setCell ⟨gb108, 0, none⟩ (.int .i64 ((rd_T47 l0_5 x52_3).f0))).setCell ⟨gb108, 1, none⟩ (.int .i64 ((rd_T47 l0_5 x52_3).f1.f0))).setCell ⟨gb108, 2, none⟩ (.int .i64 ((rd_T47 l0_5 x52_3).f1.f1))).setCell ⟨gb108, 3, none⟩ (.string ((rd_T47 l0_5 x52_3).f1.f2))) = w73 at n0_ n1_ n2_ ⊢
                have BK102 := n0_
                have BK108 := n1_
                have HB := n2_
                clear n0_ n1_ n2_
                have n0_ := zM (zD BK102.out)
                have n1_ := zM (zD BK108.out)
                have n2_ := zM (zW HB.out)
                clear BK102
                clear BK108
                clear HB
                have BK102 := n0_
                have BK108 := n1_
                have HB := n2_
                clear n0_ n1_ n2_
                refine start_ (n := 32) (S := fun w' => w'.cell? ⟨gb108, 0, none⟩ = some (.int .i64 ((rd_T47 l0_5 x52_3).f0)) ∧ w'.cell? ⟨gb108, 1, none⟩ = some (.int .i64 ((rd_T47 l0_5 x52_3).f1.f0)) ∧ w'.cell? ⟨gb108, 2, none⟩ = some (.int .i64 ((rd_T47 l0_5 x52_3).f1.f1)) ∧ w'.cell? ⟨gb108, 3, none⟩ = some (.string ((rd_T47 l0_5 x52_3).f1.f2))) (ds := []) zb0 (by kernel_rfl) rfl rfl ⟨(zC BK108.out 0).trans rfl, (zC BK108.out 1).trans rfl, (zC BK108.out 2).trans rfl, (zC BK108.out 3).trans rfl⟩ (fun hHeld => ?_); refine with_tabW record_May.tab12 record_May.bits12 (fun HT_ HW_ => ?_)
                generalize w73.drew = w74 at BK102 BK108 HB hHeld ⊢
                refine pure_ (i := 0) (N := some 57) (v := ?_) (a' := ?_) zb1 rfl rfl (any_of HT_.out (by kernel_rfl)) (fun _ _ _ h => h) (Or.inl ⟨by rfl, ?_⟩) ?_ ?_
                rotate_left
                ·intro w'
                 go_simp
                 with_reducible rfl
                rotate_left
                ·simp only [Act.put, zT, zZ, zU, i64_w, i32_w]
                 rfl
                refine take_ (i := 1) (N := some 58) (v := ?_) (a' := ?_) zb2 rfl rfl (take_ofW HT_.out HW_.out (by kernel_rfl)) (fun _ _ _ h => h) (Or.inl ⟨by rfl, ?_⟩) hHeld ?_ ?_
                rotate_left
                ·rintro w' ⟨s0, s1, s2, s3⟩
                 go_simp
                 with_reducible rfl
                rotate_left
                ·simp only [Act.put, zT, zZ, zU, i64_w, i32_w]
                 rfl
                refine one_ (i := 2) (N := some 59) zb3 rfl rfl (one_of HT_.out (by kernel_rfl)) (by decide) (fun K hK => ?_)
                refine goes_ Tryd.func32 (by kernel_rfl) rfl #[.int .i64 ((rd_T47 l0_5 x52_3).f0)] (by rfl) rfl rfl (by (try simp only [zY, List.map_cons, List.map_nil]); first | done | rfl | (simp only [zV, zX]; rfl)) ?_
                with_reducible refine (record_number.calls ((rd_T47 l0_5 x52_3).f0) true _ A28.out).mono ?_
                rintro e w' ⟨rfl, ⟨nd, rfl⟩⟩
                refine ⟨_, rfl, ?_⟩
                refine hK.out _ _ ⟨(zC BK108.out 0).trans rfl, (zC BK108.out 1).trans rfl, (zC BK108.out 2).trans rfl, (zC BK108.out 3).trans rfl⟩ (fun hHeld => ?_)
                clear hK K
                refine norm_ (a' := ?_) ?_ ?_
                rotate_left
                ·show Act.put _ (some 59) _ = _
                 simp only [Act.put, zT, zZ, zU, i64_w, i32_w]
                 rfl
                refine pure_ (i := 3) (N := some 60) (v := ?_) (a' := ?_) zb4 rfl rfl (any_of HT_.out (by kernel_rfl)) (fun _ _ _ h => h) (Or.inl ⟨by rfl, ?_⟩) ?_ ?_
                rotate_left
                ·intro w'
                 go_simp
                 with_reducible rfl
                rotate_left
                ·simp only [Act.put, zT, zZ, zU, i64_w, i32_w]
                 rfl
                refine pure_ (i := 4) (N := some 61) (v := ?_) (a' := ?_) zb5 rfl rfl (any_of HT_.out (by kernel_rfl)) (fun _ _ _ h => h) (Or.inl ⟨by rfl, ?_⟩) ?_ ?_
                rotate_left
                ·intro w'
                 go_simp
                 with_reducible rfl
                rotate_left
                ·simp only [Act.put, zT, zZ, zU, i64_w, i32_w]
                 rfl
                refine pure_ (i := 5) (N := some 62) (v := ?_) (a' := ?_) zb6 rfl rfl (any_of HT_.out (by kernel_rfl)) (fun _ _ _ h => h) (Or.inl ⟨by rfl, ?_⟩) ?_ ?_
                rotate_left
                ·intro w'
                 go_simp
                 with_reducible rfl
                rotate_left
                ·simp only [Act.put, zT, zZ, zU, i64_w, i32_w]
                 rfl
                refine pure_ (i := 6) (N := some 63) (v := ?_) (a' := ?_) zb7 rfl rfl (any_of HT_.out (by kernel_rfl)) (fun _ _ _ h => h) (Or.inl ⟨by rfl, ?_⟩) ?_ ?_
                rotate_left
                ·intro w'
                 go_simp
                 with_reducible rfl
                rotate_left
                ·simp only [Act.put, zT, zZ, zU, i64_w, i32_w]
                 rfl
                refine pure_ (i := 7) (N := some 64) (v := ?_) (a' := ?_) zb8 rfl rfl (any_of HT_.out (by kernel_rfl)) (fun _ _ _ h => h) (Or.inl ⟨by rfl, ?_⟩) ?_ ?_
                rotate_left
                ·intro w'
                 go_simp
                 with_reducible rfl
                rotate_left
                ·simp only [Act.put, zT, zZ, zU, i64_w, i32_w]
                 rfl
                refine pure_ (i := 8) (N := some 65) (v := undef) (a' := ?_) zb9 rfl rfl (any_of HT_.out (by kernel_rfl)) (fun _ _ _ h => h) (Or.inr ⟨by rfl, rfl⟩) ?_ ?_
                rotate_left
                ·simp only [Act.put, zT, zZ, zU, i64_w, i32_w]
                 rfl
                refine pure_ (i := 9) (N := some 66) (v := undef) (a' := ?_) zb33 rfl rfl (any_of HT_.out (by kernel_rfl)) (fun _ _ _ h => h) (Or.inr ⟨by rfl, rfl⟩) ?_ ?_
                rotate_left
                ·simp only [Act.put, zT, zZ, zU, i64_w, i32_w]
                 rfl
                refine pure_ (i := 10) (N := some 67) (v := undef) (a' := ?_) zb34 rfl rfl (any_of HT_.out (by kernel_rfl)) (fun _ _ _ h => h) (Or.inr ⟨by rfl, rfl⟩) ?_ ?_
                rotate_left
                ·simp only [Act.put, zT, zZ, zU, i64_w, i32_w]
                 rfl
                refine pure_ (i := 11) (N := some 68) (v := undef) (a' := ?_) zb35 rfl rfl (any_of HT_.out (by kernel_rfl)) (fun _ _ _ h => h) (Or.inr ⟨by rfl, rfl⟩) ?_ ?_
                rotate_left
                ·simp only [Act.put, zT, zZ, zU, i64_w, i32_w]
                 rfl
                refine pure_ (i := 12) (N := some 69) (v := undef) (a' := ?_) zb36 rfl rfl (any_of HT_.out (by kernel_rfl)) (fun _ _ _ h => h) (Or.inr ⟨by rfl, rfl⟩) ?_ ?_
                rotate_left
                ·simp only [Act.put, zT, zZ, zU, i64_w, i32_w]
                 rfl
                refine pure_ (i := 13) (N := some 70) (v := undef) (a' := ?_) zb14 rfl rfl (any_of HT_.out (by kernel_rfl)) (fun _ _ _ h => h) (Or.inr ⟨by rfl, rfl⟩) ?_ ?_
                rotate_left
                ·simp only [Act.put, zT, zZ, zU, i64_w, i32_w]
                 rfl
                refine pure_ (i := 14) (N := some 71) (v := undef) (a' := ?_) zb15 rfl rfl (any_of HT_.out (by kernel_rfl)) (fun _ _ _ h => h) (Or.inr ⟨by rfl, rfl⟩) ?_ ?_
                rotate_left
                ·simp only [Act.put, zT, zZ, zU, i64_w, i32_w]
                 rfl
                refine pure_ (i := 15) (N := some 72) (v := undef) (a' := ?_) zb16 rfl rfl (any_of HT_.out (by kernel_rfl)) (fun _ _ _ h => h) (Or.inr ⟨by rfl, rfl⟩) ?_ ?_
                rotate_left
                ·simp only [Act.put, zT, zZ, zU, i64_w, i32_w]
                 rfl
                refine pure_ (i := 16) (N := some 73) (v := undef) (a' := ?_) zb17 rfl rfl (any_of HT_.out (by kernel_rfl)) (fun _ _ _ h => h) (Or.inr ⟨by rfl, rfl⟩) ?_ ?_
                rotate_left
                ·simp only [Act.put, zT, zZ, zU, i64_w, i32_w]
                 rfl
                refine pure_ (i := 17) (N := some 74) (v := undef) (a' := ?_) zb18 rfl rfl (any_of HT_.out (by kernel_rfl)) (fun _ _ _ h => h) (Or.inr ⟨by rfl, rfl⟩) ?_ ?_
                rotate_left
                ·simp only [Act.put, zT, zZ, zU, i64_w, i32_w]
                 rfl
                refine pure_ (i := 18) (N := some 75) (v := ?_) (a' := ?_) zb19 rfl rfl (any_of HT_.out (by kernel_rfl)) (fun _ _ _ h => h) (Or.inl ⟨by rfl, ?_⟩) ?_ ?_
                rotate_left
                ·intro w'
                 go_simp
                 with_reducible rfl
                rotate_left
                ·simp only [Act.put, zT, zZ, zU, i64_w, i32_w]
                 rfl
                refine pure_ (i := 19) (N := some 76) (v := ?_) (a' := ?_) zb20 rfl rfl (any_of HT_.out (by kernel_rfl)) (fun _ _ _ h => h) (Or.inl ⟨by rfl, ?_⟩) ?_ ?_
                rotate_left
                ·intro w'
                 go_simp
                 with_reducible rfl
                rotate_left
                ·simp only [Act.put, zT, zZ, zU, i64_w, i32_w]
                 rfl
                refine pure_ (i := 20) (N := some 77) (v := ?_) (a' := ?_) zb21 rfl rfl (any_of HT_.out (by kernel_rfl)) (fun _ _ _ h => h) (Or.inl ⟨by rfl, ?_⟩) ?_ ?_
                rotate_left
                ·intro w'
                 go_simp
                 with_reducible rfl
                rotate_left
                ·simp only [Act.put, zT, zZ, zU, i64_w, i32_w]
                 rfl
                refine pure_ (i := 21) (N := some 78) (v := ?_) (a' := ?_) zb22 rfl rfl (any_of HT_.out (by kernel_rfl)) (fun _ _ _ h => h) (Or.inl ⟨by rfl, ?_⟩) ?_ ?_
                rotate_left
                ·intro w'
                 go_simp
                 with_reducible rfl
                rotate_left
                ·simp only [Act.put, zT, zZ, zU, i64_w, i32_w]
                 rfl
                refine take_ (i := 22) (N := some 79) (v := ?_) (a' := ?_) zb23 rfl rfl (take_ofW HT_.out HW_.out (by kernel_rfl)) (fun _ _ _ h => h) (Or.inl ⟨by rfl, ?_⟩) hHeld ?_ ?_
                rotate_left
                ·rintro w' ⟨s0, s1, s2, s3⟩
                 go_simp
                 with_reducible rfl
                rotate_left
                ·simp only [Act.put, zT, zZ, zU, i64_w, i32_w]
                 rfl
                refine one_ (i := 23) (N := some 80) zb24 rfl rfl (one_of HT_.out (by kernel_rfl)) (by decide) (fun K hK => ?_)
                refine goes_ Tryd.func33 (by kernel_rfl) rfl #[.agg #[.int .i64 ((rd_T47 l0_5 x52_3).f1.f0), .int .i64 ((rd_T47 l0_5 x52_3).f1.f1), .string ((rd_T47 l0_5 x52_3).f1.f2)]] (by rfl) rfl rfl (by (try simp only [zY, List.map_cons, List.map_nil]); first | done | rfl | (simp only [zV, zX]; rfl)) ?_
                with_reducible refine (value_May.calls ((rd_T47 l0_5 x52_3).f1.f0) ((rd_T47 l0_5 x52_3).f1.f1) ((rd_T47 l0_5 x52_3).f1.f2) true _ A61.out).mono ?_
                rintro e w75 ⟨rfl, hb⟩
                refine ⟨_, rfl, ?_⟩
                have n0_ := zM (zB (g := gb102) (o := .cells #[.bool a0_0, .slice A0_1 l0_1.length c0_1, .int .i64 a0_2, .int .u64 a0_3, .int .u64 a0_4, .slice (some ad107) l0_5.length c0_5] 26 (0, 0)) (by (with_reducible repeat (first | refine zN ?_ _ | refine zD ?_ | refine zA ?_ _)); exact BK102.out) hb)
                have n1_ := zM (zB (g := gb108) (o := .cells #[.int .i64 ((rd_T47 l0_5 x52_3).f0), .int .i64 ((rd_T47 l0_5 x52_3).f1.f0), .int .i64 ((rd_T47 l0_5 x52_3).f1.f1), .string ((rd_T47 l0_5 x52_3).f1.f2)] 47 (0, 0)) (by (with_reducible repeat (first | refine zN ?_ _ | refine zD ?_ | refine zA ?_ _)); exact BK108.out) hb)
                have n2_ := zM (below_step (by repeat (first | (with_reducible first | exact HB.out | apply zL | apply zP | apply zW | refine zS ?_ GE102.out | refine zS ?_ GE108.out) | exact HB.out)) hb)
                clear BK102
                clear BK108
                clear HB
                have BK102 := n0_
                have BK108 := n1_
                have HB := n2_
                clear n0_ n1_ n2_
                (try clear hb)
                (try clear hb2)
                (try clear hk)
                (try clear hi)
                refine hK.out _ _ ⟨(zC BK108.out 0).trans rfl, (zC BK108.out 1).trans rfl, (zC BK108.out 2).trans rfl, (zC BK108.out 3).trans rfl⟩ (fun hHeld => ?_)
                clear hK K
                refine norm_ (a' := ?_) ?_ ?_
                rotate_left
                ·show Act.put _ (some 80) _ = _
                 simp only [Act.put, zT, zZ, zU, i64_w, i32_w]
                 rfl
                refine pure_ (i := 24) (N := some 81) (v := ?_) (a' := ?_) zb25 rfl rfl (any_of HT_.out (by kernel_rfl)) (fun _ _ _ h => h) (Or.inl ⟨by rfl, ?_⟩) ?_ ?_
                rotate_left
                ·intro w'
                 go_simp
                 with_reducible rfl
                rotate_left
                ·simp only [Act.put, zT, zZ, zU, i64_w, i32_w]
                 rfl
                refine pure_ (i := 25) (N := some 82) (v := ?_) (a' := ?_) zb26 rfl rfl (any_of HT_.out (by kernel_rfl)) (fun _ _ _ h => h) (Or.inl ⟨by rfl, ?_⟩) ?_ ?_
                rotate_left
                ·intro w'
                 go_simp
                 with_reducible rfl
                rotate_left
                ·simp only [Act.put, zT, zZ, zU, i64_w, i32_w]
                 rfl
                refine pure_ (i := 26) (N := some 83) (v := ?_) (a' := ?_) zb27 rfl rfl (any_of HT_.out (by kernel_rfl)) (fun _ _ _ h => h) (Or.inl ⟨by rfl, ?_⟩) ?_ ?_
                rotate_left
                ·intro w'
                 go_simp
                 with_reducible rfl
                rotate_left
                ·simp only [Act.put, zT, zZ, zU, i64_w, i32_w]
                 rfl
                refine pure_ (i := 27) (N := some 84) (v := ?_) (a' := ?_) zb28 rfl rfl (any_of HT_.out (by kernel_rfl)) (fun _ _ _ h => h) (Or.inl ⟨by rfl, ?_⟩) ?_ ?_
                rotate_left
                ·intro w'
                 go_simp
                 with_reducible rfl
                rotate_left
                ·simp only [Act.put, zT, zZ, zU, i64_w, i32_w]
                 rfl
                refine pure_ (i := 28) (N := some 85) (v := ?_) (a' := ?_) zb29 rfl rfl (any_of HT_.out (by kernel_rfl)) (fun _ _ _ h => h) (Or.inl ⟨by rfl, ?_⟩) ?_ ?_
                rotate_left
                ·intro w'
                 go_simp
                 with_reducible rfl
                rotate_left
                ·simp only [Act.put, zT, zZ, zU, i64_w, i32_w]
                 rfl
                refine take_ (i := 29) (N := some 86) (v := ?_) (a' := ?_) zb30 rfl rfl (take_ofW HT_.out HW_.out (by kernel_rfl)) (fun _ _ _ h => h) (Or.inl ⟨by rfl, ?_⟩) hHeld ?_ ?_
                rotate_left
                ·rintro w' ⟨s0, s1, s2, s3⟩
                 go_simp
                 with_reducible rfl
                rotate_left
                ·simp only [Act.put, zT, zZ, zU, i64_w, i32_w]
                 rfl
                refine pure_ (i := 30) (N := some 87) (v := ?_) (a' := ?_) zb31 rfl rfl (any_of HT_.out (by kernel_rfl)) (fun _ _ _ h => h) (Or.inl ⟨by rfl, ?_⟩) ?_ ?_
                rotate_left
                ·intro w'
                 go_simp
                 with_reducible rfl
                rotate_left
                ·simp only [Act.put, zT, zZ, zU, i64_w, i32_w]
                 rfl
                refine pure_ (i := 31) (N := some 88) (v := ?_) (a' := ?_) zb32 rfl rfl (any_of HT_.out (by kernel_rfl)) (fun _ _ _ h => h) (Or.inl ⟨by rfl, ?_⟩) ?_ ?_
                rotate_left
                ·intro w'
                 go_simp
                 with_reducible rfl
                rotate_left
                ·simp only [Act.put, zT, zZ, zU, i64_w, i32_w]
                 rfl
                refine done_ (done_of HT_.out (by kernel_rfl)) ?_
                try go_wp2
                go_roundg k3
                case measure => have := HJ1.out; have := HK2.out; have := HK3.out; omega
                case rel => exact ⟨(wrap64 (x52_3 + 1)), (by first | rfl | (simp; done) | (simp [*]; done)), H', ⟨by have := HJ1.out; have := HK2.out; have := HK3.out; omega⟩, ⟨by (with_reducible repeat (first | refine zN ?_ _ | refine zD ?_ | refine zA ?_ _)); exact BK102.out⟩, ⟨by repeat (first | (with_reducible first | exact HB.out | apply zL | apply zP | apply zW | refine zS ?_ GE102.out | refine zS ?_ GE108.out) | exact HB.out)⟩⟩
              ·replace c62 := Bool.eq_false_iff.mpr c62
               subst c62
               have H1 : (some false) = some r := by rw [if_neg (show ¬ (false = true) by decide)] at H; exact H
               clear H
               have H := H1
               clear H1
               obtain rfl := Option.some.inj H
               have p107 : 0 ≤ (x52_3 : Int) := of_decide_eq_true (by first | (with_reducible assumption) | assumption)
               have q107 : x52_3 < (l0_5.length : Int) := of_decide_eq_true (by first | (with_reducible assumption) | assumption)
               obtain ⟨ad107, e107, hx107_0, hx107_1, hx107_2, hx107_3⟩ := at_T47 HR0_5.out x52_3 p107 q107
               cases e107
               replace hx107_0 := (HB.out.cell (World.block_lt_of_cell? w _ hx107_0)).trans hx107_0
               replace hx107_1 := (HB.out.cell (World.block_lt_of_cell? w _ hx107_1)).trans hx107_1
               replace hx107_2 := (HB.out.cell (World.block_lt_of_cell? w _ hx107_2)).trans hx107_2
               replace hx107_3 := (HB.out.cell (World.block_lt_of_cell? w _ hx107_3)).trans hx107_3
               replace p107 := eq_true p107
               replace q107 := eq_true q107
               try go_wp2_with (first | ((with_reducible refine gate_dst (N := 6) rfl ?_); (try (refine gate_guard (by rfl) ?_; dsimp only)); refine box_event ?hg (N := 6) ?hd (cs := #[.int .i64 0, .int .i64 0, .int .i64 0, .string (⟨#[]⟩ : ByteArray)]) (t := 47) ?hr ?_; (case hd => rfl); (case hg => rfl); (case hr => first | (go_simp; done) | (go_simp; rfl)); intro gb108 hg w76 hbox hb; have n0_ := zM (zB (g := gb102) (o := .cells #[.bool a0_0, .slice A0_1 l0_1.length c0_1, .int .i64 a0_2, .int .u64 a0_3, .int .u64 a0_4, .slice (some ad107) l0_5.length c0_5] 26 (0, 0)) (by (with_reducible repeat (first | refine zN ?_ _ | refine zD ?_ | refine zA ?_ _)); exact BK102.out) hb); have n1_ := zM (below_step (by repeat (first | (with_reducible first | exact HB.out | apply zL | apply zP | apply zW | refine zS ?_ GE102.out) | exact HB.out)) hb); have n2_ := zM (hbox); have n3_ := zM ((by rw [hg]; exact (below_size (by repeat (first | (with_reducible first | exact HB.out | apply zL | apply zP | apply zW | refine zS ?_ GE102.out) | exact HB.out))) : w.heap.size ≤ gb108)); have n4_ := zM ((by rw [hg]; exact (below_size (by repeat (first | (with_reducible first | exact HB.out | apply zL | apply zP | apply zW | refine zS ?_ GE102.out) | exact HB.out))) : w.heap.size ≤ gb108)); have n5_ := zM ((by rw [hg]; exact Nat.ne_of_lt (blk_lt (g := gb102) (o := .cells #[.bool a0_0, .slice A0_1 l0_1.length c0_1, .int .i64 a0_2, .int .u64 a0_3, .int .u64 a0_4, .slice (some ad107) l0_5.length c0_5] 26 (0, 0)) (by (with_reducible repeat (first | refine zN ?_ _ | refine zD ?_ | refine zA ?_ _)); exact BK102.out)) : gb102 ≠ gb108)); have n6_ := zM ((by rw [hg]; exact Nat.ne_of_gt (blk_lt (g := gb102) (o := .cells #[.bool a0_0, .slice A0_1 l0_1.length c0_1, .int .i64 a0_2, .int .u64 a0_3, .int .u64 a0_4, .slice (some ad107) l0_5.length c0_5] 26 (0, 0)) (by (with_reducible repeat (first | refine zN ?_ _ | refine zD ?_ | refine zA ?_ _)); exact BK102.out)) : gb108 ≠ gb102)); clear BK102; clear HB; have BK102 := n0_; have HB := n1_; have BK108 := n2_; have GW108 := n3_; have GE108 := n4_; have NB102_108 := n5_; have NB108_102 := n6_; clear n0_ n1_ n2_ n3_ n4_ n5_ n6_; clear hb hbox hg; have hnb77 := NB108_102.out; have hnc77 := NB102_108.out; have hcz78_0 : w76.cell? ⟨gb108, 0, none⟩ = some (.int .i64 0) := (zC BK108.out 0).trans rfl; have hcz78_1 : w76.cell? ⟨gb108, 1, none⟩ = some (.int .i64 0) := (zC BK108.out 1).trans rfl; have hcz78_2 : w76.cell? ⟨gb108, 2, none⟩ = some (.int .i64 0) := (zC BK108.out 2).trans rfl; have hcz78_3 : w76.cell? ⟨gb108, 3, none⟩ = some (.string (⟨#[]⟩ : ByteArray)) := (zC BK108.out 3).trans rfl; have hfz78_0 := zF BK108.out 0; have hfz78_1 := zF BK108.out 1; have hfz78_2 := zF BK108.out 2; have hfz78_3 := zF BK108.out 3))
               have n0_ : Aside0 (((((w76.setCell ⟨gb108, 0, none⟩ (.int .i64 ((rd_T47 l0_5 x52_3).f0))).setCell ⟨gb108, 1, none⟩ (.int .i64 ((rd_T47 l0_5 x52_3).f1.f0))).setCell ⟨gb108, 2, none⟩ (.int .i64 ((rd_T47 l0_5 x52_3).f1.f1))).setCell ⟨gb108, 3, none⟩ (.string ((rd_T47 l0_5 x52_3).f1.f2))).heap[gb102]? = some (.cells #[.bool a0_0, .slice A0_1 l0_1.length c0_1, .int .i64 a0_2, .int .u64 a0_3, .int .u64 a0_4, .slice (some ad107) l0_5.length c0_5] 26 (0, 0))) := ⟨by (with_reducible repeat (first | refine zN ?_ _ | refine zD ?_ | refine zA ?_ _)); refine blk_far ?_ NB102_108.out _; (with_reducible repeat (first | refine zN ?_ _ | refine zD ?_ | refine zA ?_ _)); refine blk_far ?_ NB102_108.out _; (with_reducible repeat (first | refine zN ?_ _ | refine zD ?_ | refine zA ?_ _)); refine blk_far ?_ NB102_108.out _; (with_reducible repeat (first | refine zN ?_ _ | refine zD ?_ | refine zA ?_ _)); refine blk_far ?_ NB102_108.out _; (with_reducible repeat (first | refine zN ?_ _ | refine zD ?_ | refine zA ?_ _)); exact BK102.out⟩
               have n1_ : Aside0 (((((w76.setCell ⟨gb108, 0, none⟩ (.int .i64 ((rd_T47 l0_5 x52_3).f0))).setCell ⟨gb108, 1, none⟩ (.int .i64 ((rd_T47 l0_5 x52_3).f1.f0))).setCell ⟨gb108, 2, none⟩ (.int .i64 ((rd_T47 l0_5 x52_3).f1.f1))).setCell ⟨gb108, 3, none⟩ (.string ((rd_T47 l0_5 x52_3).f1.f2))).heap[gb108]? = some (.cells #[.int .i64 ((rd_T47 l0_5 x52_3).f0), .int .i64 ((rd_T47 l0_5 x52_3).f1.f0), .int .i64 ((rd_T47 l0_5 x52_3).f1.f1), .string ((rd_T47 l0_5 x52_3).f1.f2)] 47 (0, 0))) := ⟨by (with_reducible repeat (first | refine zN ?_ _ | refine zD ?_ | refine zA ?_ _)); refine blk_put (cs := #[.int .i64 ((rd_T47 l0_5 x52_3).f0), .int .i64 ((rd_T47 l0_5 x52_3).f1.f0), .int .i64 ((rd_T47 l0_5 x52_3).f1.f1), .string (⟨#[]⟩ : ByteArray)]) ?_ 3 _ rfl; (with_reducible repeat (first | refine zN ?_ _ | refine zD ?_ | refine zA ?_ _)); refine blk_put (cs := #[.int .i64 ((rd_T47 l0_5 x52_3).f0), .int .i64 ((rd_T47 l0_5 x52_3).f1.f0), .int .i64 0, .string (⟨#[]⟩ : ByteArray)]) ?_ 2 _ rfl; (with_reducible repeat (first | refine zN ?_ _ | refine zD ?_ | refine zA ?_ _)); refine blk_put (cs := #[.int .i64 ((rd_T47 l0_5 x52_3).f0), .int .i64 0, .int .i64 0, .string (⟨#[]⟩ : ByteArray)]) ?_ 1 _ rfl; (with_reducible repeat (first | refine zN ?_ _ | refine zD ?_ | refine zA ?_ _)); refine blk_put (cs := #[.int .i64 0, .int .i64 0, .int .i64 0, .string (⟨#[]⟩ : ByteArray)]) ?_ 0 _ rfl; (with_reducible repeat (first | refine zN ?_ _ | refine zD ?_ | refine zA ?_ _)); exact BK108.out⟩
               have n2_ : Aside0 (Below w.heap.size w ((((w76.setCell ⟨gb108, 0, none⟩ (.int .i64 ((rd_T47 l0_5 x52_3).f0))).setCell ⟨gb108, 1, none⟩ (.int .i64 ((rd_T47 l0_5 x52_3).f1.f0))).setCell ⟨gb108, 2, none⟩ (.int .i64 ((rd_T47 l0_5 x52_3).f1.f1))).setCell ⟨gb108, 3, none⟩ (.string ((rd_T47 l0_5 x52_3).f1.f2)))) := ⟨by repeat (first | (with_reducible first | exact HB.out | apply zL | apply zP | apply zW | refine zS ?_ GE102.out | refine zS ?_ GE108.out) | exact HB.out)⟩
               (try clear BK102)
               (try clear BK108)
               (try clear HB)
               generalize ((((w76.setCell ⟨gb108, 0, none⟩ (.int .i64 ((rd_T47 l0_5 x52_3).f0))).setCell ⟨gb108, 1, none⟩ (.int .i64 ((rd_T47 l0_5 x52_3).f1.f0))).setCell ⟨gb108, 2, none⟩ (.int .i64 ((rd_T47 l0_5 x52_3).f1.f1))).setCell ⟨gb108, 3, none⟩ (.string ((rd_T47 l0_5 x52_3).f1.f2))) = w79 at n0_ n1_ n2_ ⊢
               have BK102 := n0_
               have BK108 := n1_
               have HB := n2_
               clear n0_ n1_ n2_
               have n0_ := zM (zD BK102.out)
               have n1_ := zM (zD BK108.out)
               have n2_ := zM (zW HB.out)
               clear BK102
               clear BK108
               clear HB
               have BK102 := n0_
               have BK108 := n1_
               have HB := n2_
               clear n0_ n1_ n2_
               refine start_ (n := 32) (S := fun w' => w'.cell? ⟨gb108, 0, none⟩ = some (.int .i64 ((rd_T47 l0_5 x52_3).f0)) ∧ w'.cell? ⟨gb108, 1, none⟩ = some (.int .i64 ((rd_T47 l0_5 x52_3).f1.f0)) ∧ w'.cell? ⟨gb108, 2, none⟩ = some (.int .i64 ((rd_T47 l0_5 x52_3).f1.f1)) ∧ w'.cell? ⟨gb108, 3, none⟩ = some (.string ((rd_T47 l0_5 x52_3).f1.f2))) (ds := []) zb0 (by kernel_rfl) rfl rfl ⟨(zC BK108.out 0).trans rfl, (zC BK108.out 1).trans rfl, (zC BK108.out 2).trans rfl, (zC BK108.out 3).trans rfl⟩ (fun hHeld => ?_); refine with_tabW record_May.tab12 record_May.bits12 (fun HT_ HW_ => ?_)
               generalize w79.drew = w80 at BK102 BK108 HB hHeld ⊢
               refine pure_ (i := 0) (N := some 57) (v := ?_) (a' := ?_) zb1 rfl rfl (any_of HT_.out (by kernel_rfl)) (fun _ _ _ h => h) (Or.inl ⟨by rfl, ?_⟩) ?_ ?_
               rotate_left
               ·intro w'
                go_simp
                with_reducible rfl
               rotate_left
               ·simp only [Act.put, zT, zZ, zU, i64_w, i32_w]
                rfl
               refine take_ (i := 1) (N := some 58) (v := ?_) (a' := ?_) zb2 rfl rfl (take_ofW HT_.out HW_.out (by kernel_rfl)) (fun _ _ _ h => h) (Or.inl ⟨by rfl, ?_⟩) hHeld ?_ ?_
               rotate_left
               ·rintro w' ⟨s0, s1, s2, s3⟩
                go_simp
                with_reducible rfl
               rotate_left
               ·simp only [Act.put, zT, zZ, zU, i64_w, i32_w]
                rfl
               refine one_ (i := 2) (N := some 59) zb3 rfl rfl (one_of HT_.out (by kernel_rfl)) (by decide) (fun K hK => ?_)
               refine goes_ Tryd.func32 (by kernel_rfl) rfl #[.int .i64 ((rd_T47 l0_5 x52_3).f0)] (by rfl) rfl rfl (by (try simp only [zY, List.map_cons, List.map_nil]); first | done | rfl | (simp only [zV, zX]; rfl)) ?_
               with_reducible refine (record_number.calls ((rd_T47 l0_5 x52_3).f0) true _ A28.out).mono ?_
               rintro e w' ⟨rfl, ⟨nd, rfl⟩⟩
               refine ⟨_, rfl, ?_⟩
               refine hK.out _ _ ⟨(zC BK108.out 0).trans rfl, (zC BK108.out 1).trans rfl, (zC BK108.out 2).trans rfl, (zC BK108.out 3).trans rfl⟩ (fun hHeld => ?_)
               clear hK K
               refine norm_ (a' := ?_) ?_ ?_
               rotate_left
               ·show Act.put _ (some 59) _ = _
                simp only [Act.put, zT, zZ, zU, i64_w, i32_w]
                rfl
               refine pure_ (i := 3) (N := some 60) (v := ?_) (a' := ?_) zb4 rfl rfl (any_of HT_.out (by kernel_rfl)) (fun _ _ _ h => h) (Or.inl ⟨by rfl, ?_⟩) ?_ ?_
               rotate_left
               ·intro w'
                go_simp
                with_reducible rfl
               rotate_left
               ·simp only [Act.put, zT, zZ, zU, i64_w, i32_w]
                rfl
               refine pure_ (i := 4) (N := some 61) (v := ?_) (a' := ?_) zb5 rfl rfl (any_of HT_.out (by kernel_rfl)) (fun _ _ _ h => h) (Or.inl ⟨by rfl, ?_⟩) ?_ ?_
               rotate_left
               ·intro w'
                go_simp
                with_reducible rfl
               rotate_left
               ·simp only [Act.put, zT, zZ, zU, i64_w, i32_w]
                rfl
               refine pure_ (i := 5) (N := some 62) (v := ?_) (a' := ?_) zb6 rfl rfl (any_of HT_.out (by kernel_rfl)) (fun _ _ _ h => h) (Or.inl ⟨by rfl, ?_⟩) ?_ ?_
               rotate_left
               ·intro w'
                go_simp
                with_reducible rfl
               rotate_left
               ·simp only [Act.put, zT, zZ, zU, i64_w, i32_w]
                rfl
               refine pure_ (i := 6) (N := some 63) (v := ?_) (a' := ?_) zb7 rfl rfl (any_of HT_.out (by kernel_rfl)) (fun _ _ _ h => h) (Or.inl ⟨by rfl, ?_⟩) ?_ ?_
               rotate_left
               ·intro w'
                go_simp
                with_reducible rfl
               rotate_left
               ·simp only [Act.put, zT, zZ, zU, i64_w, i32_w]
                rfl
               refine pure_ (i := 7) (N := some 64) (v := ?_) (a' := ?_) zb8 rfl rfl (any_of HT_.out (by kernel_rfl)) (fun _ _ _ h => h) (Or.inl ⟨by rfl, ?_⟩) ?_ ?_
               rotate_left
               ·intro w'
                go_simp
                with_reducible rfl
               rotate_left
               ·simp only [Act.put, zT, zZ, zU, i64_w, i32_w]
                rfl
               refine pure_ (i := 8) (N := some 65) (v := undef) (a' := ?_) zb9 rfl rfl (any_of HT_.out (by kernel_rfl)) (fun _ _ _ h => h) (Or.inr ⟨by rfl, rfl⟩) ?_ ?_
               rotate_left
               ·simp only [Act.put, zT, zZ, zU, i64_w, i32_w]
                rfl
               refine pure_ (i := 9) (N := some 66) (v := undef) (a' := ?_) zb33 rfl rfl (any_of HT_.out (by kernel_rfl)) (fun _ _ _ h => h) (Or.inr ⟨by rfl, rfl⟩) ?_ ?_
               rotate_left
               ·simp only [Act.put, zT, zZ, zU, i64_w, i32_w]
                rfl
               refine pure_ (i := 10) (N := some 67) (v := undef) (a' := ?_) zb34 rfl rfl (any_of HT_.out (by kernel_rfl)) (fun _ _ _ h => h) (Or.inr ⟨by rfl, rfl⟩) ?_ ?_
               rotate_left
               ·simp only [Act.put, zT, zZ, zU, i64_w, i32_w]
                rfl
               refine pure_ (i := 11) (N := some 68) (v := undef) (a' := ?_) zb35 rfl rfl (any_of HT_.out (by kernel_rfl)) (fun _ _ _ h => h) (Or.inr ⟨by rfl, rfl⟩) ?_ ?_
               rotate_left
               ·simp only [Act.put, zT, zZ, zU, i64_w, i32_w]
                rfl
               refine pure_ (i := 12) (N := some 69) (v := undef) (a' := ?_) zb36 rfl rfl (any_of HT_.out (by kernel_rfl)) (fun _ _ _ h => h) (Or.inr ⟨by rfl, rfl⟩) ?_ ?_
               rotate_left
               ·simp only [Act.put, zT, zZ, zU, i64_w, i32_w]
                rfl
               refine pure_ (i := 13) (N := some 70) (v := undef) (a' := ?_) zb14 rfl rfl (any_of HT_.out (by kernel_rfl)) (fun _ _ _ h => h) (Or.inr ⟨by rfl, rfl⟩) ?_ ?_
               rotate_left
               ·simp only [Act.put, zT, zZ, zU, i64_w, i32_w]
                rfl
               refine pure_ (i := 14) (N := some 71) (v := undef) (a' := ?_) zb15 rfl rfl (any_of HT_.out (by kernel_rfl)) (fun _ _ _ h => h) (Or.inr ⟨by rfl, rfl⟩) ?_ ?_
               rotate_left
               ·simp only [Act.put, zT, zZ, zU, i64_w, i32_w]
                rfl
               refine pure_ (i := 15) (N := some 72) (v := undef) (a' := ?_) zb16 rfl rfl (any_of HT_.out (by kernel_rfl)) (fun _ _ _ h => h) (Or.inr ⟨by rfl, rfl⟩) ?_ ?_
               rotate_left
               ·simp only [Act.put, zT, zZ, zU, i64_w, i32_w]
                rfl
               refine pure_ (i := 16) (N := some 73) (v := undef) (a' := ?_) zb17 rfl rfl (any_of HT_.out (by kernel_rfl)) (fun _ _ _ h => h) (Or.inr ⟨by rfl, rfl⟩) ?_ ?_
               rotate_left
               ·simp only [Act.put, zT, zZ, zU, i64_w, i32_w]
                rfl
               refine pure_ (i := 17) (N := some 74) (v := undef) (a' := ?_) zb18 rfl rfl (any_of HT_.out (by kernel_rfl)) (fun _ _ _ h => h) (Or.inr ⟨by rfl, rfl⟩) ?_ ?_
               rotate_left
               ·simp only [Act.put, zT, zZ, zU, i64_w, i32_w]
                rfl
               refine pure_ (i := 18) (N := some 75) (v := ?_) (a' := ?_) zb19 rfl rfl (any_of HT_.out (by kernel_rfl)) (fun _ _ _ h => h) (Or.inl ⟨by rfl, ?_⟩) ?_ ?_
               rotate_left
               ·intro w'
                go_simp
                with_reducible rfl
               rotate_left
               ·simp only [Act.put, zT, zZ, zU, i64_w, i32_w]
                rfl
               refine pure_ (i := 19) (N := some 76) (v := ?_) (a' := ?_) zb20 rfl rfl (any_of HT_.out (by kernel_rfl)) (fun _ _ _ h => h) (Or.inl ⟨by rfl, ?_⟩) ?_ ?_
               rotate_left
               ·intro w'
                go_simp
                with_reducible rfl
               rotate_left
               ·simp only [Act.put, zT, zZ, zU, i64_w, i32_w]
                rfl
               refine pure_ (i := 20) (N := some 77) (v := ?_) (a' := ?_) zb21 rfl rfl (any_of HT_.out (by kernel_rfl)) (fun _ _ _ h => h) (Or.inl ⟨by rfl, ?_⟩) ?_ ?_
               rotate_left
               ·intro w'
                go_simp
                with_reducible rfl
               rotate_left
               ·simp only [Act.put, zT, zZ, zU, i64_w, i32_w]
                rfl
               refine pure_ (i := 21) (N := some 78) (v := ?_) (a' := ?_) zb22 rfl rfl (any_of HT_.out (by kernel_rfl)) (fun _ _ _ h => h) (Or.inl ⟨by rfl, ?_⟩) ?_ ?_
               rotate_left
               ·intro w'
                go_simp
                with_reducible rfl
               rotate_left
               ·simp only [Act.put, zT, zZ, zU, i64_w, i32_w]
                rfl
               refine take_ (i := 22) (N := some 79) (v := ?_) (a' := ?_) zb23 rfl rfl (take_ofW HT_.out HW_.out (by kernel_rfl)) (fun _ _ _ h => h) (Or.inl ⟨by rfl, ?_⟩) hHeld ?_ ?_
               rotate_left
               ·rintro w' ⟨s0, s1, s2, s3⟩
                go_simp
                with_reducible rfl
               rotate_left
               ·simp only [Act.put, zT, zZ, zU, i64_w, i32_w]
                rfl
               refine one_ (i := 23) (N := some 80) zb24 rfl rfl (one_of HT_.out (by kernel_rfl)) (by decide) (fun K hK => ?_)
               refine goes_ Tryd.func33 (by kernel_rfl) rfl #[.agg #[.int .i64 ((rd_T47 l0_5 x52_3).f1.f0), .int .i64 ((rd_T47 l0_5 x52_3).f1.f1), .string ((rd_T47 l0_5 x52_3).f1.f2)]] (by rfl) rfl rfl (by (try simp only [zY, List.map_cons, List.map_nil]); first | done | rfl | (simp only [zV, zX]; rfl)) ?_
               with_reducible refine (value_May.calls ((rd_T47 l0_5 x52_3).f1.f0) ((rd_T47 l0_5 x52_3).f1.f1) ((rd_T47 l0_5 x52_3).f1.f2) false _ A61.out).mono ?_
               rintro e w81 ⟨rfl, hb⟩
               refine ⟨_, rfl, ?_⟩
               have n0_ := zM (zB (g := gb102) (o := .cells #[.bool a0_0, .slice A0_1 l0_1.length c0_1, .int .i64 a0_2, .int .u64 a0_3, .int .u64 a0_4, .slice (some ad107) l0_5.length c0_5] 26 (0, 0)) (by (with_reducible repeat (first | refine zN ?_ _ | refine zD ?_ | refine zA ?_ _)); exact BK102.out) hb)
               have n1_ := zM (zB (g := gb108) (o := .cells #[.int .i64 ((rd_T47 l0_5 x52_3).f0), .int .i64 ((rd_T47 l0_5 x52_3).f1.f0), .int .i64 ((rd_T47 l0_5 x52_3).f1.f1), .string ((rd_T47 l0_5 x52_3).f1.f2)] 47 (0, 0)) (by (with_reducible repeat (first | refine zN ?_ _ | refine zD ?_ | refine zA ?_ _)); exact BK108.out) hb)
               have n2_ := zM (below_step (by repeat (first | (with_reducible first | exact HB.out | apply zL | apply zP | apply zW | refine zS ?_ GE102.out | refine zS ?_ GE108.out) | exact HB.out)) hb)
               clear BK102
               clear BK108
               clear HB
               have BK102 := n0_
               have BK108 := n1_
               have HB := n2_
               clear n0_ n1_ n2_
               (try clear hb)
               (try clear hb2)
               (try clear hk)
               (try clear hi)
               refine hK.out _ _ ⟨(zC BK108.out 0).trans rfl, (zC BK108.out 1).trans rfl, (zC BK108.out 2).trans rfl, (zC BK108.out 3).trans rfl⟩ (fun hHeld => ?_)
               clear hK K
               refine norm_ (a' := ?_) ?_ ?_
               rotate_left
               ·show Act.put _ (some 80) _ = _
                simp only [Act.put, zT, zZ, zU, i64_w, i32_w]
                rfl
               refine pure_ (i := 24) (N := some 81) (v := ?_) (a' := ?_) zb25 rfl rfl (any_of HT_.out (by kernel_rfl)) (fun _ _ _ h => h) (Or.inl ⟨by rfl, ?_⟩) ?_ ?_
               rotate_left
               ·intro w'
                go_simp
                with_reducible rfl
               rotate_left
               ·simp only [Act.put, zT, zZ, zU, i64_w, i32_w]
                rfl
               refine pure_ (i := 25) (N := some 82) (v := ?_) (a' := ?_) zb26 rfl rfl (any_of HT_.out (by kernel_rfl)) (fun _ _ _ h => h) (Or.inl ⟨by rfl, ?_⟩) ?_ ?_
               rotate_left
               ·intro w'
                go_simp
                with_reducible rfl
               rotate_left
               ·simp only [Act.put, zT, zZ, zU, i64_w, i32_w]
                rfl
               refine pure_ (i := 26) (N := some 83) (v := ?_) (a' := ?_) zb27 rfl rfl (any_of HT_.out (by kernel_rfl)) (fun _ _ _ h => h) (Or.inl ⟨by rfl, ?_⟩) ?_ ?_
               rotate_left
               ·intro w'
                go_simp
                with_reducible rfl
               rotate_left
               ·simp only [Act.put, zT, zZ, zU, i64_w, i32_w]
                rfl
               refine pure_ (i := 27) (N := some 84) (v := undef) (a' := ?_) zb28 rfl rfl (any_of HT_.out (by kernel_rfl)) (fun _ _ _ h => h) (Or.inr ⟨by rfl, rfl⟩) ?_ ?_
               rotate_left
               ·simp only [Act.put, zT, zZ, zU, i64_w, i32_w]
                rfl
               refine pure_ (i := 28) (N := some 85) (v := undef) (a' := ?_) zb29 rfl rfl (any_of HT_.out (by kernel_rfl)) (fun _ _ _ h => h) (Or.inr ⟨by rfl, rfl⟩) ?_ ?_
               rotate_left
               ·simp only [Act.put, zT, zZ, zU, i64_w, i32_w]
                rfl
               refine pure_ (i := 29) (N := some 86) (v := undef) (a' := ?_) zb30 rfl rfl (any_of HT_.out (by kernel_rfl)) (fun _ _ _ h => h) (Or.inr ⟨by rfl, rfl⟩) ?_ ?_
               rotate_left
               ·simp only [Act.put, zT, zZ, zU, i64_w, i32_w]
                rfl
               refine pure_ (i := 30) (N := some 87) (v := undef) (a' := ?_) zb31 rfl rfl (any_of HT_.out (by kernel_rfl)) (fun _ _ _ h => h) (Or.inr ⟨by rfl, rfl⟩) ?_ ?_
               rotate_left
               ·simp only [Act.put, zT, zZ, zU, i64_w, i32_w]
                rfl
               refine pure_ (i := 31) (N := some 88) (v := ?_) (a' := ?_) zb32 rfl rfl (any_of HT_.out (by kernel_rfl)) (fun _ _ _ h => h) (Or.inl ⟨by rfl, ?_⟩) ?_ ?_
               rotate_left
               ·intro w'
                go_simp
                with_reducible rfl
               rotate_left
               ·simp only [Act.put, zT, zZ, zU, i64_w, i32_w]
                rfl
               refine done_ (done_of HT_.out (by kernel_rfl)) ?_
               try go_wp2
               go_ret
               exact ⟨by first | rfl | (simp [errW_none, errW_some] <;> rfl) | (simp [*, errW_none, errW_some] <;> rfl), by repeat (first | (with_reducible first | exact HB.out | apply zL | apply zP | apply zW | refine zS ?_ GE102.out | refine zS ?_ GE108.out) | exact HB.out)⟩
            ·replace c29 := Bool.eq_false_iff.mpr c29
             subst c29
             have H1 : (some false) = some r := by rw [if_neg (show ¬ (false = true) by decide)] at H; exact H
             clear H
             have H := H1
             clear H1
             obtain rfl := Option.some.inj H
             have p107 : 0 ≤ (x52_3 : Int) := of_decide_eq_true (by first | (with_reducible assumption) | assumption)
             have q107 : x52_3 < (l0_5.length : Int) := of_decide_eq_true (by first | (with_reducible assumption) | assumption)
             obtain ⟨ad107, e107, hx107_0, hx107_1, hx107_2, hx107_3⟩ := at_T47 HR0_5.out x52_3 p107 q107
             cases e107
             replace hx107_0 := (HB.out.cell (World.block_lt_of_cell? w _ hx107_0)).trans hx107_0
             replace hx107_1 := (HB.out.cell (World.block_lt_of_cell? w _ hx107_1)).trans hx107_1
             replace hx107_2 := (HB.out.cell (World.block_lt_of_cell? w _ hx107_2)).trans hx107_2
             replace hx107_3 := (HB.out.cell (World.block_lt_of_cell? w _ hx107_3)).trans hx107_3
             replace p107 := eq_true p107
             replace q107 := eq_true q107
             try go_wp2_with (first | ((with_reducible refine gate_dst (N := 6) rfl ?_); (try (refine gate_guard (by rfl) ?_; dsimp only)); refine box_event ?hg (N := 6) ?hd (cs := #[.int .i64 0, .int .i64 0, .int .i64 0, .string (⟨#[]⟩ : ByteArray)]) (t := 47) ?hr ?_; (case hd => rfl); (case hg => rfl); (case hr => first | (go_simp; done) | (go_simp; rfl)); intro gb108 hg w82 hbox hb; have n0_ := zM (zB (g := gb102) (o := .cells #[.bool a0_0, .slice A0_1 l0_1.length c0_1, .int .i64 a0_2, .int .u64 a0_3, .int .u64 a0_4, .slice (some ad107) l0_5.length c0_5] 26 (0, 0)) (by (with_reducible repeat (first | refine zN ?_ _ | refine zD ?_ | refine zA ?_ _)); exact BK102.out) hb); have n1_ := zM (below_step (by repeat (first | (with_reducible first | exact HB.out | apply zL | apply zP | apply zW | refine zS ?_ GE102.out) | exact HB.out)) hb); have n2_ := zM (hbox); have n3_ := zM ((by rw [hg]; exact (below_size (by repeat (first | (with_reducible first | exact HB.out | apply zL | apply zP | apply zW | refine zS ?_ GE102.out) | exact HB.out))) : w.heap.size ≤ gb108)); have n4_ := zM ((by rw [hg]; exact (below_size (by repeat (first | (with_reducible first | exact HB.out | apply zL | apply zP | apply zW | refine zS ?_ GE102.out) | exact HB.out))) : w.heap.size ≤ gb108)); have n5_ := zM ((by rw [hg]; exact Nat.ne_of_lt (blk_lt (g := gb102) (o := .cells #[.bool a0_0, .slice A0_1 l0_1.length c0_1, .int .i64 a0_2, .int .u64 a0_3, .int .u64 a0_4, .slice (some ad107) l0_5.length c0_5] 26 (0, 0)) (by (with_reducible repeat (first | refine zN ?_ _ | refine zD ?_ | refine zA ?_ _)); exact BK102.out)) : gb102 ≠ gb108)); have n6_ := zM ((by rw [hg]; exact Nat.ne_of_gt (blk_lt (g := gb102) (o := .cells #[.bool a0_0, .slice A0_1 l0_1.length c0_1, .int .i64 a0_2, .int .u64 a0_3, .int .u64 a0_4, .slice (some ad107) l0_5.length c0_5] 26 (0, 0)) (by (with_reducible repeat (first | refine zN ?_ _ | refine zD ?_ | refine zA ?_ _)); exact BK102.out)) : gb108 ≠ gb102)); clear BK102; clear HB; have BK102 := n0_; have HB := n1_; have BK108 := n2_; have GW108 := n3_; have GE108 := n4_; have NB102_108 := n5_; have NB108_102 := n6_; clear n0_ n1_ n2_ n3_ n4_ n5_ n6_; clear hb hbox hg; have hnb83 := NB108_102.out; have hnc83 := NB102_108.out; have hcz84_0 : w82.cell? ⟨gb108, 0, none⟩ = some (.int .i64 0) := (zC BK108.out 0).trans rfl; have hcz84_1 : w82.cell? ⟨gb108, 1, none⟩ = some (.int .i64 0) := (zC BK108.out 1).trans rfl; have hcz84_2 : w82.cell? ⟨gb108, 2, none⟩ = some (.int .i64 0) := (zC BK108.out 2).trans rfl; have hcz84_3 : w82.cell? ⟨gb108, 3, none⟩ = some (.string (⟨#[]⟩ : ByteArray)) := (zC BK108.out 3).trans rfl; have hfz84_0 := zF BK108.out 0; have hfz84_1 := zF BK108.out 1; have hfz84_2 := zF BK108.out 2; have hfz84_3 := zF BK108.out 3))
             have n0_ : Aside0 (((((w82.setCell ⟨gb108, 0, none⟩ (.int .i64 ((rd_T47 l0_5 x52_3).f0))).setCell ⟨gb108, 1, none⟩ (.int .i64 ((rd_T47 l0_5 x52_3).f1.f0))).setCell ⟨gb108, 2, none⟩ (.int .i64 ((rd_T47 l0_5 x52_3).f1.f1))).setCell ⟨gb108, 3, none⟩ (.string ((rd_T47 l0_5 x52_3).f1.f2))).heap[gb102]? = some (.cells #[.bool a0_0, .slice A0_1 l0_1.length c0_1, .int .i64 a0_2, .int .u64 a0_3, .int .u64 a0_4, .slice (some ad107) l0_5.length c0_5] 26 (0, 0))) := ⟨by (with_reducible repeat (first | refine zN ?_ _ | refine zD ?_ | refine zA ?_ _)); refine blk_far ?_ NB102_108.out _; (with_reducible repeat (first | refine zN ?_ _ | refine zD ?_ | refine zA ?_ _)); refine blk_far ?_ NB102_108.out _; (with_reducible repeat (first | refine zN ?_ _ | refine zD ?_ | refine zA ?_ _)); refine blk_far ?_ NB102_108.out _; (with_reducible repeat (first | refine zN ?_ _ | refine zD ?_ | refine zA ?_ _)); refine blk_far ?_ NB102_108.out _; (with_reducible repeat (first | refine zN ?_ _ | refine zD ?_ | refine zA ?_ _)); exact BK102.out⟩
             have n1_ : Aside0 (((((w82.setCell ⟨gb108, 0, none⟩ (.int .i64 ((rd_T47 l0_5 x52_3).f0))).setCell ⟨gb108, 1, none⟩ (.int .i64 ((rd_T47 l0_5 x52_3).f1.f0))).setCell ⟨gb108, 2, none⟩ (.int .i64 ((rd_T47 l0_5 x52_3).f1.f1))).setCell ⟨gb108, 3, none⟩ (.string ((rd_T47 l0_5 x52_3).f1.f2))).heap[gb108]? = some (.cells #[.int .i64 ((rd_T47 l0_5 x52_3).f0), .int .i64 ((rd_T47 l0_5 x52_3).f1.f0), .int .i64 ((rd_T47 l0_5 x52_3).f1.f1), .string ((rd_T47 l0_5 x52_3).f1.f2)] 47 (0, 0))) := ⟨by (with_reducible repeat (first | refine zN ?_ _ | refine zD ?_ | refine zA ?_ _)); refine blk_put (cs := #[.int .i64 ((rd_T47 l0_5 x52_3).f0), .int .i64 ((rd_T47 l0_5 x52_3).f1.f0), .int .i64 ((rd_T47 l0_5 x52_3).f1.f1), .string (⟨#[]⟩ : ByteArray)]) ?_ 3 _ rfl; (with_reducible repeat (first | refine zN ?_ _ | refine zD ?_ | refine zA ?_ _)); refine blk_put (cs := #[.int .i64 ((rd_T47 l0_5 x52_3).f0), .int .i64 ((rd_T47 l0_5 x52_3).f1.f0), .int .i64 0, .string (⟨#[]⟩ : ByteArray)]) ?_ 2 _ rfl; (with_reducible repeat (first | refine zN ?_ _ | refine zD ?_ | refine zA ?_ _)); refine blk_put (cs := #[.int .i64 ((rd_T47 l0_5 x52_3).f0), .int .i64 0, .int .i64 0, .string (⟨#[]⟩ : ByteArray)]) ?_ 1 _ rfl; (with_reducible repeat (first | refine zN ?_ _ | refine zD ?_ | refine zA ?_ _)); refine blk_put (cs := #[.int .i64 0, .int .i64 0, .int .i64 0, .string (⟨#[]⟩ : ByteArray)]) ?_ 0 _ rfl; (with_reducible repeat (first | refine zN ?_ _ | refine zD ?_ | refine zA ?_ _)); exact BK108.out⟩
             have n2_ : Aside0 (Below w.heap.size w ((((w82.setCell ⟨gb108, 0, none⟩ (.int .i64 ((rd_T47 l0_5 x52_3).f0))).setCell ⟨gb108, 1, none⟩ (.int .i64 ((rd_T47 l0_5 x52_3).f1.f0))).setCell ⟨gb108, 2, none⟩ (.int .i64 ((rd_T47 l0_5 x52_3).f1.f1))).setCell ⟨gb108, 3, none⟩ (.string ((rd_T47 l0_5 x52_3).f1.f2)))) := ⟨by repeat (first | (with_reducible first | exact HB.out | apply zL | apply zP | apply zW | refine zS ?_ GE102.out | refine zS ?_ GE108.out) | exact HB.out)⟩
             (try clear BK102)
             (try clear BK108)
             (try clear HB)
             generalize ((((w82.setCell ⟨gb108, 0, none⟩ (.int .i64 ((rd_T47 l0_5 x52_3).f0))).setCell ⟨gb108, 1, none⟩ (.int .i64 ((rd_T47 l0_5 x52_3).f1.f0))).setCell ⟨gb108, 2, none⟩ (.int .i64 ((rd_T47 l0_5 x52_3).f1.f1))).setCell ⟨gb108, 3, none⟩ (.string ((rd_T47 l0_5 x52_3).f1.f2))) = w85 at n0_ n1_ n2_ ⊢
             have BK102 := n0_
             have BK108 := n1_
             have HB := n2_
             clear n0_ n1_ n2_
             have n0_ := zM (zD BK102.out)
             have n1_ := zM (zD BK108.out)
             have n2_ := zM (zW HB.out)
             clear BK102
             clear BK108
             clear HB
             have BK102 := n0_
             have BK108 := n1_
             have HB := n2_
             clear n0_ n1_ n2_
             refine start_ (n := 32) (S := fun w' => w'.cell? ⟨gb108, 0, none⟩ = some (.int .i64 ((rd_T47 l0_5 x52_3).f0)) ∧ w'.cell? ⟨gb108, 1, none⟩ = some (.int .i64 ((rd_T47 l0_5 x52_3).f1.f0)) ∧ w'.cell? ⟨gb108, 2, none⟩ = some (.int .i64 ((rd_T47 l0_5 x52_3).f1.f1)) ∧ w'.cell? ⟨gb108, 3, none⟩ = some (.string ((rd_T47 l0_5 x52_3).f1.f2))) (ds := []) zb0 (by kernel_rfl) rfl rfl ⟨(zC BK108.out 0).trans rfl, (zC BK108.out 1).trans rfl, (zC BK108.out 2).trans rfl, (zC BK108.out 3).trans rfl⟩ (fun hHeld => ?_); refine with_tabW record_May.tab12 record_May.bits12 (fun HT_ HW_ => ?_)
             generalize w85.drew = w86 at BK102 BK108 HB hHeld ⊢
             refine pure_ (i := 0) (N := some 57) (v := ?_) (a' := ?_) zb1 rfl rfl (any_of HT_.out (by kernel_rfl)) (fun _ _ _ h => h) (Or.inl ⟨by rfl, ?_⟩) ?_ ?_
             rotate_left
             ·intro w'
              go_simp
              with_reducible rfl
             rotate_left
             ·simp only [Act.put, zT, zZ, zU, i64_w, i32_w]
              rfl
             refine take_ (i := 1) (N := some 58) (v := ?_) (a' := ?_) zb2 rfl rfl (take_ofW HT_.out HW_.out (by kernel_rfl)) (fun _ _ _ h => h) (Or.inl ⟨by rfl, ?_⟩) hHeld ?_ ?_
             rotate_left
             ·rintro w' ⟨s0, s1, s2, s3⟩
              go_simp
              with_reducible rfl
             rotate_left
             ·simp only [Act.put, zT, zZ, zU, i64_w, i32_w]
              rfl
             refine one_ (i := 2) (N := some 59) zb3 rfl rfl (one_of HT_.out (by kernel_rfl)) (by decide) (fun K hK => ?_)
             refine goes_ Tryd.func32 (by kernel_rfl) rfl #[.int .i64 ((rd_T47 l0_5 x52_3).f0)] (by rfl) rfl rfl (by (try simp only [zY, List.map_cons, List.map_nil]); first | done | rfl | (simp only [zV, zX]; rfl)) ?_
             with_reducible refine (record_number.calls ((rd_T47 l0_5 x52_3).f0) false _ A28.out).mono ?_
             rintro e w' ⟨rfl, ⟨nd, rfl⟩⟩
             refine ⟨_, rfl, ?_⟩
             refine hK.out _ _ ⟨(zC BK108.out 0).trans rfl, (zC BK108.out 1).trans rfl, (zC BK108.out 2).trans rfl, (zC BK108.out 3).trans rfl⟩ (fun hHeld => ?_)
             clear hK K
             refine norm_ (a' := ?_) ?_ ?_
             rotate_left
             ·show Act.put _ (some 59) _ = _
              simp only [Act.put, zT, zZ, zU, i64_w, i32_w]
              rfl
             refine pure_ (i := 3) (N := some 60) (v := ?_) (a' := ?_) zb4 rfl rfl (any_of HT_.out (by kernel_rfl)) (fun _ _ _ h => h) (Or.inl ⟨by rfl, ?_⟩) ?_ ?_
             rotate_left
             ·intro w'
              go_simp
              with_reducible rfl
             rotate_left
             ·simp only [Act.put, zT, zZ, zU, i64_w, i32_w]
              rfl
             refine pure_ (i := 4) (N := some 61) (v := ?_) (a' := ?_) zb5 rfl rfl (any_of HT_.out (by kernel_rfl)) (fun _ _ _ h => h) (Or.inl ⟨by rfl, ?_⟩) ?_ ?_
             rotate_left
             ·intro w'
              go_simp
              with_reducible rfl
             rotate_left
             ·simp only [Act.put, zT, zZ, zU, i64_w, i32_w]
              rfl
             refine pure_ (i := 5) (N := some 62) (v := undef) (a' := ?_) zb6 rfl rfl (any_of HT_.out (by kernel_rfl)) (fun _ _ _ h => h) (Or.inr ⟨by rfl, rfl⟩) ?_ ?_
             rotate_left
             ·simp only [Act.put, zT, zZ, zU, i64_w, i32_w]
              rfl
             refine pure_ (i := 6) (N := some 63) (v := undef) (a' := ?_) zb7 rfl rfl (any_of HT_.out (by kernel_rfl)) (fun _ _ _ h => h) (Or.inr ⟨by rfl, rfl⟩) ?_ ?_
             rotate_left
             ·simp only [Act.put, zT, zZ, zU, i64_w, i32_w]
              rfl
             refine pure_ (i := 7) (N := some 64) (v := undef) (a' := ?_) zb8 rfl rfl (any_of HT_.out (by kernel_rfl)) (fun _ _ _ h => h) (Or.inr ⟨by rfl, rfl⟩) ?_ ?_
             rotate_left
             ·simp only [Act.put, zT, zZ, zU, i64_w, i32_w]
              rfl
             refine pure_ (i := 8) (N := some 65) (v := undef) (a' := ?_) zb9 rfl rfl (any_of HT_.out (by kernel_rfl)) (fun _ _ _ h => h) (Or.inr ⟨by rfl, rfl⟩) ?_ ?_
             rotate_left
             ·simp only [Act.put, zT, zZ, zU, i64_w, i32_w]
              rfl
             refine pure_ (i := 9) (N := some 66) (v := undef) (a' := ?_) zb33 rfl rfl (any_of HT_.out (by kernel_rfl)) (fun _ _ _ h => h) (Or.inr ⟨by rfl, rfl⟩) ?_ ?_
             rotate_left
             ·simp only [Act.put, zT, zZ, zU, i64_w, i32_w]
              rfl
             refine pure_ (i := 10) (N := some 67) (v := undef) (a' := ?_) zb34 rfl rfl (any_of HT_.out (by kernel_rfl)) (fun _ _ _ h => h) (Or.inr ⟨by rfl, rfl⟩) ?_ ?_
             rotate_left
             ·simp only [Act.put, zT, zZ, zU, i64_w, i32_w]
              rfl
             refine pure_ (i := 11) (N := some 68) (v := undef) (a' := ?_) zb35 rfl rfl (any_of HT_.out (by kernel_rfl)) (fun _ _ _ h => h) (Or.inr ⟨by rfl, rfl⟩) ?_ ?_
             rotate_left
             ·simp only [Act.put, zT, zZ, zU, i64_w, i32_w]
              rfl
             refine pure_ (i := 12) (N := some 69) (v := undef) (a' := ?_) zb36 rfl rfl (any_of HT_.out (by kernel_rfl)) (fun _ _ _ h => h) (Or.inr ⟨by rfl, rfl⟩) ?_ ?_
             rotate_left
             ·simp only [Act.put, zT, zZ, zU, i64_w, i32_w]
              rfl
             refine pure_ (i := 13) (N := some 70) (v := undef) (a' := ?_) zb14 rfl rfl (any_of HT_.out (by kernel_rfl)) (fun _ _ _ h => h) (Or.inr ⟨by rfl, rfl⟩) ?_ ?_
             rotate_left
             ·simp only [Act.put, zT, zZ, zU, i64_w, i32_w]
              rfl
             refine pure_ (i := 14) (N := some 71) (v := undef) (a' := ?_) zb15 rfl rfl (any_of HT_.out (by kernel_rfl)) (fun _ _ _ h => h) (Or.inr ⟨by rfl, rfl⟩) ?_ ?_
             rotate_left
             ·simp only [Act.put, zT, zZ, zU, i64_w, i32_w]
              rfl
             refine pure_ (i := 15) (N := some 72) (v := undef) (a' := ?_) zb16 rfl rfl (any_of HT_.out (by kernel_rfl)) (fun _ _ _ h => h) (Or.inr ⟨by rfl, rfl⟩) ?_ ?_
             rotate_left
             ·simp only [Act.put, zT, zZ, zU, i64_w, i32_w]
              rfl
             refine pure_ (i := 16) (N := some 73) (v := undef) (a' := ?_) zb17 rfl rfl (any_of HT_.out (by kernel_rfl)) (fun _ _ _ h => h) (Or.inr ⟨by rfl, rfl⟩) ?_ ?_
             rotate_left
             ·simp only [Act.put, zT, zZ, zU, i64_w, i32_w]
              rfl
             refine pure_ (i := 17) (N := some 74) (v := undef) (a' := ?_) zb18 rfl rfl (any_of HT_.out (by kernel_rfl)) (fun _ _ _ h => h) (Or.inr ⟨by rfl, rfl⟩) ?_ ?_
             rotate_left
             ·simp only [Act.put, zT, zZ, zU, i64_w, i32_w]
              rfl
             refine pure_ (i := 18) (N := some 75) (v := undef) (a' := ?_) zb19 rfl rfl (any_of HT_.out (by kernel_rfl)) (fun _ _ _ h => h) (Or.inr ⟨by rfl, rfl⟩) ?_ ?_
             rotate_left
             ·simp only [Act.put, zT, zZ, zU, i64_w, i32_w]
              rfl
             refine pure_ (i := 19) (N := some 76) (v := ?_) (a' := ?_) zb20 rfl rfl (any_of HT_.out (by kernel_rfl)) (fun _ _ _ h => h) (Or.inl ⟨by rfl, ?_⟩) ?_ ?_
             rotate_left
             ·intro w'
              go_simp
              with_reducible rfl
             rotate_left
             ·simp only [Act.put, zT, zZ, zU, i64_w, i32_w]
              rfl
             refine pure_ (i := 20) (N := some 77) (v := ?_) (a' := ?_) zb21 rfl rfl (any_of HT_.out (by kernel_rfl)) (fun _ _ _ h => h) (Or.inl ⟨by rfl, ?_⟩) ?_ ?_
             rotate_left
             ·intro w'
              go_simp
              with_reducible rfl
             rotate_left
             ·simp only [Act.put, zT, zZ, zU, i64_w, i32_w]
              rfl
             refine pure_ (i := 21) (N := some 78) (v := undef) (a' := ?_) zb22 rfl rfl (any_of HT_.out (by kernel_rfl)) (fun _ _ _ h => h) (Or.inr ⟨by rfl, rfl⟩) ?_ ?_
             rotate_left
             ·simp only [Act.put, zT, zZ, zU, i64_w, i32_w]
              rfl
             refine pure_ (i := 22) (N := some 79) (v := undef) (a' := ?_) zb23 rfl rfl (any_of HT_.out (by kernel_rfl)) (fun _ _ _ h => h) (Or.inr ⟨by rfl, rfl⟩) ?_ ?_
             rotate_left
             ·simp only [Act.put, zT, zZ, zU, i64_w, i32_w]
              rfl
             refine pure_ (i := 23) (N := some 80) (v := undef) (a' := ?_) zb24 rfl rfl (any_of HT_.out (by kernel_rfl)) (fun _ _ _ h => h) (Or.inr ⟨by rfl, rfl⟩) ?_ ?_
             rotate_left
             ·simp only [Act.put, zT, zZ, zU, i64_w, i32_w]
              rfl
             refine pure_ (i := 24) (N := some 81) (v := undef) (a' := ?_) zb25 rfl rfl (any_of HT_.out (by kernel_rfl)) (fun _ _ _ h => h) (Or.inr ⟨by rfl, rfl⟩) ?_ ?_
             rotate_left
             ·simp only [Act.put, zT, zZ, zU, i64_w, i32_w]
              rfl
             refine pure_ (i := 25) (N := some 82) (v := ?_) (a' := ?_) zb26 rfl rfl (any_of HT_.out (by kernel_rfl)) (fun _ _ _ h => h) (Or.inl ⟨by rfl, ?_⟩) ?_ ?_
             rotate_left
             ·intro w'
              go_simp
              with_reducible rfl
             rotate_left
             ·simp only [Act.put, zT, zZ, zU, i64_w, i32_w]
              rfl
             refine pure_ (i := 26) (N := some 83) (v := ?_) (a' := ?_) zb27 rfl rfl (any_of HT_.out (by kernel_rfl)) (fun _ _ _ h => h) (Or.inl ⟨by rfl, ?_⟩) ?_ ?_
             rotate_left
             ·intro w'
              go_simp
              with_reducible rfl
             rotate_left
             ·simp only [Act.put, zT, zZ, zU, i64_w, i32_w]
              rfl
             refine pure_ (i := 27) (N := some 84) (v := undef) (a' := ?_) zb28 rfl rfl (any_of HT_.out (by kernel_rfl)) (fun _ _ _ h => h) (Or.inr ⟨by rfl, rfl⟩) ?_ ?_
             rotate_left
             ·simp only [Act.put, zT, zZ, zU, i64_w, i32_w]
              rfl
             refine pure_ (i := 28) (N := some 85) (v := undef) (a' := ?_) zb29 rfl rfl (any_of HT_.out (by kernel_rfl)) (fun _ _ _ h => h) (Or.inr ⟨by rfl, rfl⟩) ?_ ?_
             rotate_left
             ·simp only [Act.put, zT, zZ, zU, i64_w, i32_w]
              rfl
             refine pure_ (i := 29) (N := some 86) (v := undef) (a' := ?_) zb30 rfl rfl (any_of HT_.out (by kernel_rfl)) (fun _ _ _ h => h) (Or.inr ⟨by rfl, rfl⟩) ?_ ?_
             rotate_left
             ·simp only [Act.put, zT, zZ, zU, i64_w, i32_w]
              rfl
             refine pure_ (i := 30) (N := some 87) (v := undef) (a' := ?_) zb31 rfl rfl (any_of HT_.out (by kernel_rfl)) (fun _ _ _ h => h) (Or.inr ⟨by rfl, rfl⟩) ?_ ?_
             rotate_left
             ·simp only [Act.put, zT, zZ, zU, i64_w, i32_w]
              rfl
             refine pure_ (i := 31) (N := some 88) (v := ?_) (a' := ?_) zb32 rfl rfl (any_of HT_.out (by kernel_rfl)) (fun _ _ _ h => h) (Or.inl ⟨by rfl, ?_⟩) ?_ ?_
             rotate_left
             ·intro w'
              go_simp
              with_reducible rfl
             rotate_left
             ·simp only [Act.put, zT, zZ, zU, i64_w, i32_w]
              rfl
             refine done_ (done_of HT_.out (by kernel_rfl)) ?_
             try go_wp2
             go_ret
             exact ⟨by first | rfl | (simp [errW_none, errW_some] <;> rfl) | (simp [*, errW_none, errW_some] <;> rfl), by repeat (first | (with_reducible first | exact HB.out | apply zL | apply zP | apply zW | refine zS ?_ GE102.out | refine zS ?_ GE108.out) | exact HB.out)⟩
           ·rw [if_neg c27] at H
            exact absurd H (by simp)
          ·rw [if_neg c26] at H
           exact absurd H (by simp)
         ·rw [if_neg c25] at H
          have c25b0 : decide (x52_3 < (l0_5.length : Int)) = false := decide_eq_false c25
          clear c25
          by_cases c87 : a0_0 = true
          ·subst c87
           have H1 : (some ((l0_1.length : Int) == 0)) = some r := by rw [if_pos rfl] at H; exact H
           clear H
           have H := H1
           clear H1
           obtain rfl := Option.some.inj H
           have hcz88_0 : wr.cell? ⟨gb102, 0, none⟩ = some (.bool true) := (zC BK102.out 0).trans rfl
           have hcz88_1 : wr.cell? ⟨gb102, 1, none⟩ = some (.slice A0_1 l0_1.length c0_1) := (zC BK102.out 1).trans rfl
           have hcz88_2 : wr.cell? ⟨gb102, 2, none⟩ = some (.int .i64 a0_2) := (zC BK102.out 2).trans rfl
           have hcz88_3 : wr.cell? ⟨gb102, 3, none⟩ = some (.int .u64 a0_3) := (zC BK102.out 3).trans rfl
           have hcz88_4 : wr.cell? ⟨gb102, 4, none⟩ = some (.int .u64 a0_4) := (zC BK102.out 4).trans rfl
           have hcz88_5 : wr.cell? ⟨gb102, 5, none⟩ = some (.slice A0_5 l0_5.length c0_5) := (zC BK102.out 5).trans rfl
           have hfz88_0 := zF BK102.out 0
           have hfz88_1 := zF BK102.out 1
           have hfz88_2 := zF BK102.out 2
           have hfz88_3 := zF BK102.out 3
           have hfz88_4 := zF BK102.out 4
           have hfz88_5 := zF BK102.out 5
           go_wp2
           go_ret
           exact ⟨by first | rfl | (simp [errW_none, errW_some] <;> rfl) | (simp [*, errW_none, errW_some] <;> rfl), by repeat (first | (with_reducible first | exact HB.out | apply zL | apply zP | apply zW | refine zS ?_ GE102.out) | exact HB.out)⟩
          ·replace c87 := Bool.eq_false_iff.mpr c87
           subst c87
           have H1 : (if a0_2 = 0 then (if a0_3 = 0 then (some (a0_4 == 0)) else (some false)) else (some false)) = some r := by rw [if_neg (show ¬ (false = true) by decide)] at H; exact H
           clear H
           have H := H1
           clear H1
           by_cases c89 : a0_2 = 0
           ·rw [if_pos c89] at H
            have c89b0 : (a0_2 == 0) = true := beq_iff_eq.mpr c89
            have c89b1 : (a0_2 != 0) = false := bne_eq_false_iff_eq.mpr c89
            clear c89
            by_cases c90 : a0_3 = 0
            ·rw [if_pos c90] at H
             have c90b0 : (a0_3 == 0) = true := beq_iff_eq.mpr c90
             have c90b1 : (a0_3 != 0) = false := bne_eq_false_iff_eq.mpr c90
             clear c90
             obtain rfl := Option.some.inj H
             have hcz91_0 : wr.cell? ⟨gb102, 0, none⟩ = some (.bool false) := (zC BK102.out 0).trans rfl
             have hcz91_1 : wr.cell? ⟨gb102, 1, none⟩ = some (.slice A0_1 l0_1.length c0_1) := (zC BK102.out 1).trans rfl
             have hcz91_2 : wr.cell? ⟨gb102, 2, none⟩ = some (.int .i64 a0_2) := (zC BK102.out 2).trans rfl
             have hcz91_3 : wr.cell? ⟨gb102, 3, none⟩ = some (.int .u64 a0_3) := (zC BK102.out 3).trans rfl
             have hcz91_4 : wr.cell? ⟨gb102, 4, none⟩ = some (.int .u64 a0_4) := (zC BK102.out 4).trans rfl
             have hcz91_5 : wr.cell? ⟨gb102, 5, none⟩ = some (.slice A0_5 l0_5.length c0_5) := (zC BK102.out 5).trans rfl
             have hfz91_0 := zF BK102.out 0
             have hfz91_1 := zF BK102.out 1
             have hfz91_2 := zF BK102.out 2
             have hfz91_3 := zF BK102.out 3
             have hfz91_4 := zF BK102.out 4
             have hfz91_5 := zF BK102.out 5
             go_wp2
             go_ret
             exact ⟨by first | rfl | (simp [errW_none, errW_some] <;> rfl) | (simp [*, errW_none, errW_some] <;> rfl), by repeat (first | (with_reducible first | exact HB.out | apply zL | apply zP | apply zW | refine zS ?_ GE102.out) | exact HB.out)⟩
            ·rw [if_neg c90] at H
             have c90b0 : (a0_3 == 0) = false := beq_eq_false_iff_ne.mpr c90
             have c90b1 : (a0_3 != 0) = true := bne_iff_ne.mpr c90
             obtain rfl := Option.some.inj H
             have hcz92_0 : wr.cell? ⟨gb102, 0, none⟩ = some (.bool false) := (zC BK102.out 0).trans rfl
             have hcz92_1 : wr.cell? ⟨gb102, 1, none⟩ = some (.slice A0_1 l0_1.length c0_1) := (zC BK102.out 1).trans rfl
             have hcz92_2 : wr.cell? ⟨gb102, 2, none⟩ = some (.int .i64 a0_2) := (zC BK102.out 2).trans rfl
             have hcz92_3 : wr.cell? ⟨gb102, 3, none⟩ = some (.int .u64 a0_3) := (zC BK102.out 3).trans rfl
             have hcz92_4 : wr.cell? ⟨gb102, 4, none⟩ = some (.int .u64 a0_4) := (zC BK102.out 4).trans rfl
             have hcz92_5 : wr.cell? ⟨gb102, 5, none⟩ = some (.slice A0_5 l0_5.length c0_5) := (zC BK102.out 5).trans rfl
             have hfz92_0 := zF BK102.out 0
             have hfz92_1 := zF BK102.out 1
             have hfz92_2 := zF BK102.out 2
             have hfz92_3 := zF BK102.out 3
             have hfz92_4 := zF BK102.out 4
             have hfz92_5 := zF BK102.out 5
             go_wp2
             go_ret
             exact ⟨by first | rfl | (simp [errW_none, errW_some] <;> rfl) | (simp [*, errW_none, errW_some] <;> rfl), by repeat (first | (with_reducible first | exact HB.out | apply zL | apply zP | apply zW | refine zS ?_ GE102.out) | exact HB.out)⟩
           ·rw [if_neg c89] at H
            have c89b0 : (a0_2 == 0) = false := beq_eq_false_iff_ne.mpr c89
            have c89b1 : (a0_2 != 0) = true := bne_iff_ne.mpr c89
            obtain rfl := Option.some.inj H
            have hcz93_0 : wr.cell? ⟨gb102, 0, none⟩ = some (.bool false) := (zC BK102.out 0).trans rfl
            have hcz93_1 : wr.cell? ⟨gb102, 1, none⟩ = some (.slice A0_1 l0_1.length c0_1) := (zC BK102.out 1).trans rfl
            have hcz93_2 : wr.cell? ⟨gb102, 2, none⟩ = some (.int .i64 a0_2) := (zC BK102.out 2).trans rfl
            have hcz93_3 : wr.cell? ⟨gb102, 3, none⟩ = some (.int .u64 a0_3) := (zC BK102.out 3).trans rfl
            have hcz93_4 : wr.cell? ⟨gb102, 4, none⟩ = some (.int .u64 a0_4) := (zC BK102.out 4).trans rfl
            have hcz93_5 : wr.cell? ⟨gb102, 5, none⟩ = some (.slice A0_5 l0_5.length c0_5) := (zC BK102.out 5).trans rfl
            have hfz93_0 := zF BK102.out 0
            have hfz93_1 := zF BK102.out 1
            have hfz93_2 := zF BK102.out 2
            have hfz93_3 := zF BK102.out 3
            have hfz93_4 := zF BK102.out 4
            have hfz93_5 := zF BK102.out 5
            go_wp2
            go_ret
            exact ⟨by first | rfl | (simp [errW_none, errW_some] <;> rfl) | (simp [*, errW_none, errW_some] <;> rfl), by repeat (first | (with_reducible first | exact HB.out | apply zL | apply zP | apply zW | refine zS ?_ GE102.out) | exact HB.out)⟩

end Go.Proofs.YtgghakjleihgaaaDoor.PRecordKeys
