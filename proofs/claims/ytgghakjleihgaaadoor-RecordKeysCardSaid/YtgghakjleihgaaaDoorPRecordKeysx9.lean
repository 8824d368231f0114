-- Written by a program of this session's (the kit's print, with additions of my own). Not trusted: Lean checks it.
import Derived.Test.YtgghakjleihgaaaDoorPRecordKeysx0
import Derived.Test.YtgghakjleihgaaaDoorPRecordKeysx5
import Derived.Test.YtgghakjleihgaaaDoorPRecordKeysx8
import Derived.Test.YtgghakjleihgaaaDoorXB
namespace Go.Proofs.YtgghakjleihgaaaDoor.PRecordKeys
open Go.RowKit Go.Proofs.YtgghakjleihgaaaDoorW.PrintWords Go.Proofs.YtgghakjleihgaaaDoorW.PrintLast Go.Proofs.YtgghakjleihgaaaDoorW.PrintMore
open Go.Proofs.YtgghakjleihgaaaDoorW.PrintWords renaming blk_drewN → zN, blk_drew → zD, blk_alloc → zA, blk_cell → zC, blk_frozen → zF, below_set → zS, below_alloc → zL, below_drew1 → zW, pw_below_drewN → zP, blk_below → zB, keep_drewN → zK
open Go.Proofs.YtgghakjleihgaaaDoorW.PrintWords.Aside0 renaming mk → zM
open List renaming setIfInBounds_toArray → zT, set_cons_zero → zZ, set_cons_succ → zU, length_drop → zV, length_take → zX, map_toArray → zY
attribute [local go_sem] max2_int min2_int max_two min_two max_three min_three max_four min_four   -- for this text's walks alone
set_option linter.unusedVariables false
set_option linter.unusedSimpArgs false

/-! ### record_Key: function 15 -/
def record_Key.f (a0 : Bool) (a1 : Int) : Option (ByteArray) := if a0 = true then ((order_Num.f a1).bind fun t256 => (if 1 + t256.size ≤ 9223372036854775807 then (some ((⟨#[101]⟩ : ByteArray) ++ t256)) else (none))) else ((order_Num.f a1).bind fun t257 => (if 1 + t257.size ≤ 9223372036854775807 then (some ((⟨#[110]⟩ : ByteArray) ++ t257)) else (none)))
set_option maxHeartbeats 8000000 in
set_option maxRecDepth 100000 in
theorem record_Key.calls (a0 : Bool) (a1 : Int) (r : ByteArray) (w : World) (h : record_Key.f a0 a1 = some r) :
  Calls Tryd.prog 15 #[.bool a0, .int .u64 a1] w fun e w' => e = .returned (.string r) ∧ Below w.heap.size w w' := by
 have HB := zM (Below.refl w.heap.size w)
 have H : (if a0 = true then ((order_Num.f a1).bind fun t256 => (if 1 + t256.size ≤ 9223372036854775807 then (some ((⟨#[101]⟩ : ByteArray) ++ t256)) else (none))) else ((order_Num.f a1).bind fun t257 => (if 1 + t257.size ≤ 9223372036854775807 then (some ((⟨#[110]⟩ : ByteArray) ++ t257)) else (none)))) = some r := h
 clear h
 by_cases c3 : a0 = true
 ·subst c3
  have H1 : ((order_Num.f a1).bind fun t256 => (if 1 + t256.size ≤ 9223372036854775807 then (some ((⟨#[101]⟩ : ByteArray) ++ t256)) else (none))) = some r := by rw [if_pos rfl] at H; exact H
  clear H
  have H := H1
  clear H1
  replace H := Option.bind_eq_some_iff.mp H
  obtain ⟨t256, A40, H⟩ := H
  replace H : (if 1 + t256.size ≤ 9223372036854775807 then (some ((⟨#[101]⟩ : ByteArray) ++ t256)) else (none)) = some r := H
  have A4 := zM A40
  clear A40
  by_cases c5 : 1 + t256.size ≤ 9223372036854775807
  ·rw [if_pos c5] at H
   have c5b0 := eq_true c5
   have c5b1 : decide (1 + t256.size ≤ 9223372036854775807) = true := decide_eq_true c5
   try have c5b2 : (9223372036854775807 < 1 + t256.size) = False := eq_false (Nat.not_lt.2 c5)
   obtain rfl := Option.some.inj H
   go_enter Tryd.func15, Tryd.ntmps15
   go_wp2_with (first | ((with_reducible refine gate_callee (f := 35) rfl ?_); refine goesL_ (some 7) rfl rfl Tryd.func35 (by kernel_rfl) rfl #[.int .u64 a1] rfl (by (try simp only [zY, List.map_cons, List.map_nil]); first | done | rfl | (simp only [zV, zX]; rfl)) ?_; (with_reducible refine (order_Num.calls a1 t256 _ A4.out).mono ?_); rintro e w6 ⟨rfl, hb⟩; refine ⟨_, rfl, ?_⟩; have n0_ := zM (below_step (by repeat (first | (with_reducible first | exact HB.out | apply zL | apply zP | apply zW) | exact HB.out)) hb); clear HB; have HB := n0_; clear n0_; (try clear hb); (try clear hb2); (try clear hk); (try clear hi)))
   go_ret
   exact ⟨by first | rfl | (simp [errW_none, errW_some] <;> rfl) | (simp [*, errW_none, errW_some] <;> rfl), by repeat (first | (with_reducible first | exact HB.out | apply zL | apply zP | apply zW) | exact HB.out)⟩
  ·rw [if_neg c5] at H
   exact absurd H (by simp)
 ·replace c3 := Bool.eq_false_iff.mpr c3
  subst c3
  have H1 : ((order_Num.f a1).bind fun t257 => (if 1 + t257.size ≤ 9223372036854775807 then (some ((⟨#[110]⟩ : ByteArray) ++ t257)) else (none))) = some r := by rw [if_neg (show ¬ (false = true) by decide)] at H; exact H
  clear H
  have H := H1
  clear H1
  replace H := Option.bind_eq_some_iff.mp H
  obtain ⟨t257, A70, H⟩ := H
  replace H : (if 1 + t257.size ≤ 9223372036854775807 then (some ((⟨#[110]⟩ : ByteArray) ++ t257)) else (none)) = some r := H
  have A7 := zM A70
  clear A70
  by_cases c8 : 1 + t257.size ≤ 9223372036854775807
  ·rw [if_pos c8] at H
   have c8b0 := eq_true c8
   have c8b1 : decide (1 + t257.size ≤ 9223372036854775807) = true := decide_eq_true c8
   try have c8b2 : (9223372036854775807 < 1 + t257.size) = False := eq_false (Nat.not_lt.2 c8)
   obtain rfl := Option.some.inj H
   go_enter Tryd.func15, Tryd.ntmps15
   go_wp2_with (first | ((with_reducible refine gate_callee (f := 35) rfl ?_); refine goesL_ (some 10) rfl rfl Tryd.func35 (by kernel_rfl) rfl #[.int .u64 a1] rfl (by (try simp only [zY, List.map_cons, List.map_nil]); first | done | rfl | (simp only [zV, zX]; rfl)) ?_; (with_reducible refine (order_Num.calls a1 t257 _ A7.out).mono ?_); rintro e w9 ⟨rfl, hb⟩; refine ⟨_, rfl, ?_⟩; have n0_ := zM (below_step (by repeat (first | (with_reducible first | exact HB.out | apply zL | apply zP | apply zW) | exact HB.out)) hb); clear HB; have HB := n0_; clear n0_; (try clear hb); (try clear hb2); (try clear hk); (try clear hi)))
   go_ret
   exact ⟨by first | rfl | (simp [errW_none, errW_some] <;> rfl) | (simp [*, errW_none, errW_some] <;> rfl), by repeat (first | (with_reducible first | exact HB.out | apply zL | apply zP | apply zW) | exact HB.out)⟩
  ·rw [if_neg c8] at H
   exact absurd H (by simp)

/-! ### lodestonelaw26_awake: function 9 -/
def lodestonelaw26_awake.f (k : Nat)  : Option (Bool) := (record_Put.f k false (([1, 3] : List Int)) 0 0 0 ([] : List (S47))).bind fun t261 => ((record_Get.f k t261).bind fun bt262 => (if bt262.2.2.2.2.2.2 = 0 then (if (bt262.2.1.length : Int) = 2 then (if 1 < (bt262.2.1.length : Int) then (if (rd bt262.2.1 1) = 3 then ((record_Key.f false 1).bind fun t275 => (some (t275.toList == ([110, 17, 1] : List UInt8)))) else (some false)) else (none)) else (some false)) else (some false)))
theorem lodestonelaw26_awake.mono : ∀ k, LeO (lodestonelaw26_awake.f k ) (lodestonelaw26_awake.f (k + 1) ) := by
 intro  k
 unfold lodestonelaw26_awake.f
 repeat' first
   | (with_reducible exact record_Get.mono _ _)
   | (with_reducible exact record_Put.mono _ _ _ _ _ _ _)
   | (with_reducible exact LeO.refl _)
   | (with_reducible exact LeO.none _)
   | (with_reducible refine LeO.ite ?_ ?_)
   | (with_reducible refine LeO.bind ?_ (fun _ => ?_))
   | exact record_Get.mono _ _
   | exact record_Put.mono _ _ _ _ _ _ _
   | exact LeO.none _
   | refine LeO.ite ?_ ?_
   | refine LeO.bind ?_ (fun _ => ?_)
set_option maxHeartbeats 8000000 in
set_option maxRecDepth 100000 in
theorem lodestonelaw26_awake.calls (k : Nat)  (r : Bool) (w : World) (h : lodestonelaw26_awake.f k  = some r) :
  Calls Tryd.prog 9 #[] w fun e w' => e = .returned (.bool r) ∧ Below w.heap.size w w' := by
 have hu26 := Tryd.underlying26
 have HB := zM (Below.refl w.heap.size w)
 have H : ((record_Put.f k false (([1, 3] : List Int)) 0 0 0 ([] : List (S47))).bind fun t261 => ((record_Get.f k t261).bind fun bt262 => (if bt262.2.2.2.2.2.2 = 0 then (if (bt262.2.1.length : Int) = 2 then (if 1 < (bt262.2.1.length : Int) then (if (rd bt262.2.1 1) = 3 then ((record_Key.f false 1).bind fun t275 => (some (t275.toList == ([110, 17, 1] : List UInt8)))) else (some false)) else (none)) else (some false)) else (some false)))) = some r := h
 clear h
 obtain ⟨y258, hy258⟩ : ∃ y_ : List Int, y_ = (([1, 3] : List Int)) := ⟨_, rfl⟩
 replace H : ((record_Put.f k false y258 0 0 0 ([] : List (S47))).bind fun t261 => ((record_Get.f k t261).bind fun bt262 => (if bt262.2.2.2.2.2.2 = 0 then (if (bt262.2.1.length : Int) = 2 then (if 1 < (bt262.2.1.length : Int) then (if (rd bt262.2.1 1) = 3 then ((record_Key.f false 1).bind fun t275 => (some (t275.toList == ([110, 17, 1] : List UInt8)))) else (some false)) else (none)) else (some false)) else (some false)))) = some r := by first | (rw [hy258]; with_reducible exact H) | (have H2_ := (Option.bind_some _ _).symm.trans H; rw [hy258]; with_reducible exact H2_) | (have H2_ := (Option.bind_some _ _).symm.trans H; with_reducible exact H2_) | with_reducible exact H | (rw [hy258]; exact H) | exact H
 have Ny258 := zM hy258
 clear hy258
 replace H := Option.bind_eq_some_iff.mp H
 obtain ⟨t261, A10, H⟩ := H
 replace H : ((record_Get.f k t261).bind fun bt262 => (if bt262.2.2.2.2.2.2 = 0 then (if (bt262.2.1.length : Int) = 2 then (if 1 < (bt262.2.1.length : Int) then (if (rd bt262.2.1 1) = 3 then ((record_Key.f false 1).bind fun t275 => (some (t275.toList == ([110, 17, 1] : List UInt8)))) else (some false)) else (none)) else (some false)) else (some false))) = some r := H
 have A1 := zM A10
 clear A10
 replace H := Option.bind_eq_some_iff.mp H
 obtain ⟨⟨t262, t263, t266, t267, t268, t269, t272⟩, A20, H⟩ := H
 replace H : (if t272 = 0 then (if (t263.length : Int) = 2 then (if 1 < (t263.length : Int) then (if (rd t263 1) = 3 then ((record_Key.f false 1).bind fun t275 => (some (t275.toList == ([110, 17, 1] : List UInt8)))) else (some false)) else (none)) else (some false)) else (some false)) = some r := H
 have A2 := zM A20
 clear A20
 by_cases c3 : t272 = 0
 ·rw [if_pos c3] at H
  have c3b0 : (t272 == 0) = true := beq_iff_eq.mpr c3
  have c3b1 : (t272 != 0) = false := bne_eq_false_iff_eq.mpr c3
  clear c3
  by_cases c4 : (t263.length : Int) = 2
  ·rw [if_pos c4] at H
   have c4b0 : ((t263.length : Int) == 2) = true := beq_iff_eq.mpr c4
   have c4b1 : ((t263.length : Int) != 2) = false := bne_eq_false_iff_eq.mpr c4
   clear c4
   by_cases c5 : 1 < (t263.length : Int)
   ·rw [if_pos c5] at H
    have c5b0 : decide (1 < (t263.length : Int)) = true := decide_eq_true c5
    have c5b1 : decide (1 < t263.length) = true := decide_eq_true (by omega)
    clear c5
    by_cases c6 : (rd t263 1) = 3
    ·rw [if_pos c6] at H
     have c6b0 : ((rd t263 1) == 3) = true := beq_iff_eq.mpr c6
     have c6b1 : ((rd t263 1) != 3) = false := bne_eq_false_iff_eq.mpr c6
     clear c6
     replace H := Option.bind_eq_some_iff.mp H
     obtain ⟨t275, A70, H⟩ := H
     replace H : (some (t275.toList == ([110, 17, 1] : List UInt8))) = some r := H
     have A7 := zM A70
     clear A70
     obtain rfl := Option.some.inj H
     go_enter Tryd.func9, Tryd.ntmps9
     go_wp2_with (first | ((with_reducible refine gate_dst (N := 4) rfl ?_); (try (refine gate_guard (by rfl) ?_; dsimp only)); refine Kd.R_lit (Kd.int .i64) _ 3 ?hg (N := 4) ?hd (xs := ([1, 3] : List Int)) (inner := [.int .i64 1, .int .i64 3]) (ok := fun _ => True) (okp := fun _ => True) ?hr ?hp (fun _ hk => hk) trivial (Below.refl _ _) (Nat.le_refl _) (by simp) ?_; (case hd => rfl); (case hg => rfl); (case hr => first | (go_simp; done) | (go_simp; rfl)); (case hp => exact (Reps.one (show Kd.M (Kd.int .i64) _ _ _ 1 [.int .i64 1] from rfl) (Reps.one (show Kd.M (Kd.int .i64) _ _ _ 3 [.int .i64 3] from rfl) (Reps.none _ _)))); intro v259 w8 ho9 hb hg_ hnew_; clear hg_ hnew_; (first | rw [← Ny258.out] at ho9 | (simp only [Int.reduceToNat] at ho9; rw [← Ny258.out] at ho9)); have n0_ := zM (Kd.R_lower ho9 (below_size (by repeat (first | (with_reducible first | exact HB.out | apply zL | apply zP | apply zW) | exact HB.out)))); have n1_ := zM (below_step (by repeat (first | (with_reducible first | exact HB.out | apply zL | apply zP | apply zW) | exact HB.out)) hb); clear HB; have HO260 := n0_; have HB := n1_; clear n0_ n1_; clear hb ho9; obtain ⟨Ao10, co10, eo10⟩ := Kd.R_slice HO260.out; subst eo10) | ((with_reducible refine gate_callee (f := 7) rfl ?_); refine goesL_ (some 6) rfl rfl Tryd.func7 (by kernel_rfl) rfl #[.agg #[.bool false, .slice Ao10 y258.length co10, .int .i64 0, .int .u64 0, .int .u64 0, .slice none 0 0]] rfl (by (try simp only [zY, List.map_cons, List.map_nil]); first | done | rfl | (simp only [zV, zX]; rfl)) ?_; (refine (record_Put.calls k false _ _ y258 0 0 0 _ _ ([] : List (S47)) t261 _ ?side1 ?side2 ?side3 ?side4 A1.out).mono ?_); (case side1 => repeat (first | exact (Kd.R_reads' HO260.out).2.2 | (with_reducible refine Kd.C_alloc ?_ _) | (with_reducible refine Kd.C_drewN ?_ _) | (with_reducible refine Kd.C_drew ?_))); (case side2 => exact (Kd.R_reads' HO260.out).2.1); (case side3 => exact Kd.C_nil _ _); (case side4 => exact Nat.le_refl _); rintro e w11 ⟨rfl, hb⟩; refine ⟨_, rfl, ?_⟩; have n0_ := zM (Kd.R_below (by (with_reducible repeat (first | apply Kd.R_alloc | apply Kd.R_drewN | apply Kd.R_drew)); exact HO260.out) hb); have n1_ := zM (below_step (by repeat (first | (with_reducible first | exact HB.out | apply zL | apply zP | apply zW) | exact HB.out)) hb); clear HO260; clear HB; have HO260 := n0_; have HB := n1_; clear n0_ n1_; (try clear hb); (try clear hb2); (try clear hk); (try clear hi)) | ((with_reducible refine gate_callee (f := 8) rfl ?_); refine goesL_ (some 7) rfl rfl Tryd.func8 (by kernel_rfl) rfl #[.string t261] rfl (by (try simp only [zY, List.map_cons, List.map_nil]); first | done | rfl | (simp only [zV, zX]; rfl)) ?_; (with_reducible refine (record_Get.calls k t261 t262 t263 t266 t267 t268 t269 t272 _ A2.out).mono ?_); rintro e w12 ⟨v264, v270, rfl, ho0, ho1, hb⟩; refine ⟨_, rfl, ?_⟩; have n0_ := zM (Kd.R_elder' (by (with_reducible repeat (first | apply Kd.R_alloc | apply Kd.R_drewN | apply Kd.R_drew)); exact HO260.out) (Kd.R_base ho0) hb); have n1_ := zM (Kd.R_lower (Kd.R_new' ho0 (Kd.R_lt (by (with_reducible repeat (first | apply Kd.R_alloc | apply Kd.R_drewN | apply Kd.R_drew)); exact HO260.out))) (below_size (by repeat (first | (with_reducible first | exact HB.out | apply zL | apply zP | apply zW) | exact HB.out)))); have n2_ := zM (Kd.R_lower ho1 (below_size (by repeat (first | (with_reducible first | exact HB.out | apply zL | apply zP | apply zW) | exact HB.out)))); have n3_ := zM (below_step (by repeat (first | (with_reducible first | exact HB.out | apply zL | apply zP | apply zW) | exact HB.out)) hb); clear HO260; clear HB; have HO260 := n0_; have HO265 := n1_; have HO271 := n2_; have HB := n3_; clear n0_ n1_ n2_ n3_; (try clear hb); (try clear hb2); (try clear hk); (try clear hi); (try clear ho0); (try clear ho1)) | ((with_reducible refine gate_dst (N := 1) rfl ?_); (try (refine gate_guard (by rfl) ?_; dsimp only)); refine box_event ?hg (N := 1) ?hd (cs := #[.bool false, .slice none 0 0, .int .i64 0, .int .u64 0, .int .u64 0, .slice none 0 0]) (t := 26) ?hr ?_; (case hd => rfl); (case hg => rfl); (case hr => first | (go_simp; done) | (go_simp; rfl)); intro gb273 hg w13 hbox hb; have n0_ := zM (Kd.R_below (by (with_reducible repeat (first | apply Kd.R_alloc | apply Kd.R_drewN | apply Kd.R_drew)); exact HO260.out) hb); have n1_ := zM (Kd.R_below (by (with_reducible repeat (first | apply Kd.R_alloc | apply Kd.R_drewN | apply Kd.R_drew)); exact HO265.out) hb); have n2_ := zM (Kd.R_below (by (with_reducible repeat (first | apply Kd.R_alloc | apply Kd.R_drewN | apply Kd.R_drew)); exact HO271.out) hb); have n3_ := zM (below_step (by repeat (first | (with_reducible first | exact HB.out | apply zL | apply zP | apply zW) | exact HB.out)) hb); have n4_ := zM (hbox); have n5_ := zM ((by rw [hg]; exact (below_size (by repeat (first | (with_reducible first | exact HB.out | apply zL | apply zP | apply zW) | exact HB.out))) : w.heap.size ≤ gb273)); have n6_ := zM ((by rw [hg]; exact (below_size (by repeat (first | (with_reducible first | exact HB.out | apply zL | apply zP | apply zW) | exact HB.out))) : w.heap.size ≤ gb273)); clear HO260; clear HO265; clear HO271; clear HB; have HO260 := n0_; have HO265 := n1_; have HO271 := n2_; have HB := n3_; have BK273 := n4_; have GW273 := n5_; have GE273 := n6_; clear n0_ n1_ n2_ n3_ n4_ n5_ n6_; clear hb hbox hg; have hcz14_0 : w13.cell? ⟨gb273, 0, none⟩ = some (.bool false) := (zC BK273.out 0).trans rfl; have hcz14_1 : w13.cell? ⟨gb273, 1, none⟩ = some (.slice none 0 0) := (zC BK273.out 1).trans rfl; have hcz14_2 : w13.cell? ⟨gb273, 2, none⟩ = some (.int .i64 0) := (zC BK273.out 2).trans rfl; have hcz14_3 : w13.cell? ⟨gb273, 3, none⟩ = some (.int .u64 0) := (zC BK273.out 3).trans rfl; have hcz14_4 : w13.cell? ⟨gb273, 4, none⟩ = some (.int .u64 0) := (zC BK273.out 4).trans rfl; have hcz14_5 : w13.cell? ⟨gb273, 5, none⟩ = some (.slice none 0 0) := (zC BK273.out 5).trans rfl; have hfz14_0 := zF BK273.out 0; have hfz14_1 := zF BK273.out 1; have hfz14_2 := zF BK273.out 2; have hfz14_3 := zF BK273.out 3; have hfz14_4 := zF BK273.out 4; have hfz14_5 := zF BK273.out 5; obtain ⟨Ao15, co15, eo15⟩ := Kd.R_slice HO265.out; subst eo15; obtain ⟨Ao16, co16, eo16⟩ := Kd.R_slice HO271.out; subst eo16; have p274 : 0 ≤ (1 : Int) := (by omega); have q274 : 1 < (t263.length : Int) := of_decide_eq_true (by first | (with_reducible assumption) | assumption); obtain ⟨ad274, e274, hx274_0⟩ := Kd.at_int (Kd.R_reads' HO265.out).2.2 1 p274 q274; cases e274; (try simp only [show (1 : Int).toNat = 1 from rfl, Nat.reduceMul, Nat.reduceEqDiff, Go.Addr.add, ↓reduceIte] at hx274_0); have qi274 : (1 < t263.length) = True := eq_true (by omega); (try rw [show ((1 : Int)).toNat = 1 from rfl] at hx274_0); have hn274_0 : ad274.block ≠ gb273 := Kd.own_blk (Kd.R_ne HO265.out BK273.out (by decide)); have hn274_1 : ad274.block ≠ gb273 := Kd.own_blk (Kd.R_ne HO265.out BK273.out (by decide)); have hn274_2 : ad274.block ≠ gb273 := Kd.own_blk (Kd.R_ne HO265.out BK273.out (by decide)); have hn274_3 : ad274.block ≠ gb273 := Kd.own_blk (Kd.R_ne HO265.out BK273.out (by decide)); have hn274_4 : ad274.block ≠ gb273 := Kd.own_blk (Kd.R_ne HO265.out BK273.out (by decide)); have hn274_5 : ad274.block ≠ gb273 := Kd.own_blk (Kd.R_ne HO265.out BK273.out (by decide)); replace hx274_0 := (cell_far (p := ⟨gb273, 0, none⟩) (by first | (rw [add_block]; exact hn274_0) | (show (Addr.add _ _).block ≠ _; rw [add_block]; exact hn274_0) | exact hn274_0) (.bool t262)).trans hx274_0; replace hx274_0 := (cell_far (p := ⟨gb273, 1, none⟩) (by first | (rw [add_block]; exact hn274_1) | (show (Addr.add _ _).block ≠ _; rw [add_block]; exact hn274_1) | exact hn274_1) (.slice (some ad274) t263.length co15)).trans hx274_0; replace hx274_0 := (cell_far (p := ⟨gb273, 2, none⟩) (by first | (rw [add_block]; exact hn274_2) | (show (Addr.add _ _).block ≠ _; rw [add_block]; exact hn274_2) | exact hn274_2) (.int .i64 t266)).trans hx274_0; replace hx274_0 := (cell_far (p := ⟨gb273, 3, none⟩) (by first | (rw [add_block]; exact hn274_3) | (show (Addr.add _ _).block ≠ _; rw [add_block]; exact hn274_3) | exact hn274_3) (.int .u64 t267)).trans hx274_0; replace hx274_0 := (cell_far (p := ⟨gb273, 4, none⟩) (by first | (rw [add_block]; exact hn274_4) | (show (Addr.add _ _).block ≠ _; rw [add_block]; exact hn274_4) | exact hn274_4) (.int .u64 t268)).trans hx274_0; replace hx274_0 := (cell_far (p := ⟨gb273, 5, none⟩) (by first | (rw [add_block]; exact hn274_5) | (show (Addr.add _ _).block ≠ _; rw [add_block]; exact hn274_5) | exact hn274_5) (.slice Ao16 t269.length co16)).trans hx274_0; clear hn274_0; clear hn274_1; clear hn274_2; clear hn274_3; clear hn274_4; clear hn274_5; replace p274 := eq_true p274; replace q274 := eq_true q274) | (go_at_call 15; (with_reducible refine (record_Key.calls false 1 t275 _ A7.out).mono ?_); rintro e w17 ⟨rfl, hb⟩; have n0_ := zM (Kd.R_below (by (with_reducible repeat (first | apply Kd.R_alloc | apply Kd.R_drewN | apply Kd.R_drew)); exact (Kd.R_mono (Kd.R_far (p := ⟨gb273, 5, none⟩) (Kd.R_far (p := ⟨gb273, 4, none⟩) (Kd.R_far (p := ⟨gb273, 3, none⟩) (Kd.R_far (p := ⟨gb273, 2, none⟩) (Kd.R_far (p := ⟨gb273, 1, none⟩) (Kd.R_far (p := ⟨gb273, 0, none⟩) (Kd.R_types HO260.out BK273.out (by decide)) (fun _ hk => hk.2) (.bool t262)) (fun _ hk => hk.2) (.slice (some ad274) t263.length co15)) (fun _ hk => hk.2) (.int .i64 t266)) (fun _ hk => hk.2) (.int .u64 t267)) (fun _ hk => hk.2) (.int .u64 t268)) (fun _ hk => hk.2) (.slice Ao16 t269.length co16)) (fun _ h_ => h_.1))) hb); have n1_ := zM (Kd.R_below (by (with_reducible repeat (first | apply Kd.R_alloc | apply Kd.R_drewN | apply Kd.R_drew)); exact (Kd.R_mono (Kd.R_far (p := ⟨gb273, 5, none⟩) (Kd.R_far (p := ⟨gb273, 4, none⟩) (Kd.R_far (p := ⟨gb273, 3, none⟩) (Kd.R_far (p := ⟨gb273, 2, none⟩) (Kd.R_far (p := ⟨gb273, 1, none⟩) (Kd.R_far (p := ⟨gb273, 0, none⟩) (Kd.R_types HO265.out BK273.out (by decide)) (fun _ hk => hk.2) (.bool t262)) (fun _ hk => hk.2) (.slice (some ad274) t263.length co15)) (fun _ hk => hk.2) (.int .i64 t266)) (fun _ hk => hk.2) (.int .u64 t267)) (fun _ hk => hk.2) (.int .u64 t268)) (fun _ hk => hk.2) (.slice Ao16 t269.length co16)) (fun _ h_ => h_.1))) hb); have n2_ := zM (Kd.R_below (by (with_reducible repeat (first | apply Kd.R_alloc | apply Kd.R_drewN | apply Kd.R_drew)); exact (Kd.R_mono (Kd.R_far (p := ⟨gb273, 5, none⟩) (Kd.R_far (p := ⟨gb273, 4, none⟩) (Kd.R_far (p := ⟨gb273, 3, none⟩) (Kd.R_far (p := ⟨gb273, 2, none⟩) (Kd.R_far (p := ⟨gb273, 1, none⟩) (Kd.R_far (p := ⟨gb273, 0, none⟩) (Kd.R_types HO271.out BK273.out (by decide)) (fun _ hk => hk.2) (.bool t262)) (fun _ hk => hk.2) (.slice (some ad274) t263.length co15)) (fun _ hk => hk.2) (.int .i64 t266)) (fun _ hk => hk.2) (.int .u64 t267)) (fun _ hk => hk.2) (.int .u64 t268)) (fun _ hk => hk.2) (.slice Ao16 t269.length co16)) (fun _ h_ => h_.1))) hb); have n3_ := zM (zB (g := gb273) (o := .cells #[.bool t262, .slice (some ad274) t263.length co15, .int .i64 t266, .int .u64 t267, .int .u64 t268, .slice Ao16 t269.length co16] 26 (0, 0)) (by (with_reducible repeat (first | refine zN ?_ _ | refine zD ?_ | refine zA ?_ _)); refine blk_put (cs := #[.bool t262, .slice (some ad274) t263.length co15, .int .i64 t266, .int .u64 t267, .int .u64 t268, .slice none 0 0]) ?_ 5 _ rfl; (with_reducible repeat (first | refine zN ?_ _ | refine zD ?_ | refine zA ?_ _)); refine blk_put (cs := #[.bool t262, .slice (some ad274) t263.length co15, .int .i64 t266, .int .u64 t267, .int .u64 0, .slice none 0 0]) ?_ 4 _ rfl; (with_reducible repeat (first | refine zN ?_ _ | refine zD ?_ | refine zA ?_ _)); refine blk_put (cs := #[.bool t262, .slice (some ad274) t263.length co15, .int .i64 t266, .int .u64 0, .int .u64 0, .slice none 0 0]) ?_ 3 _ rfl; (with_reducible repeat (first | refine zN ?_ _ | refine zD ?_ | refine zA ?_ _)); refine blk_put (cs := #[.bool t262, .slice (some ad274) t263.length co15, .int .i64 0, .int .u64 0, .int .u64 0, .slice none 0 0]) ?_ 2 _ rfl; (with_reducible repeat (first | refine zN ?_ _ | refine zD ?_ | refine zA ?_ _)); refine blk_put (cs := #[.bool t262, .slice none 0 0, .int .i64 0, .int .u64 0, .int .u64 0, .slice none 0 0]) ?_ 1 _ rfl; (with_reducible repeat (first | refine zN ?_ _ | refine zD ?_ | refine zA ?_ _)); refine blk_put (cs := #[.bool false, .slice none 0 0, .int .i64 0, .int .u64 0, .int .u64 0, .slice none 0 0]) ?_ 0 _ rfl; (with_reducible repeat (first | refine zN ?_ _ | refine zD ?_ | refine zA ?_ _)); exact BK273.out) hb); have n4_ := zM (below_step (by repeat (first | (with_reducible first | exact HB.out | apply zL | apply zP | apply zW | refine zS ?_ GE273.out) | exact HB.out)) hb); clear HO260; clear HO265; clear HO271; clear BK273; clear HB; have HO260 := n0_; have HO265 := n1_; have HO271 := n2_; have BK273 := n3_; have HB := n4_; clear n0_ n1_ n2_ n3_ n4_; (try clear hb); (try clear hb2); (try clear hk); (try clear hi)))
     go_ret
     exact ⟨by first | rfl | (simp [errW_none, errW_some] <;> rfl) | (simp [*, errW_none, errW_some] <;> rfl), by repeat (first | (with_reducible first | exact HB.out | apply zL | apply zP | apply zW | refine zS ?_ GE273.out) | exact HB.out)⟩
    ·rw [if_neg c6] at H
     have c6b0 : ((rd t263 1) == 3) = false := beq_eq_false_iff_ne.mpr c6
     have c6b1 : ((rd t263 1) != 3) = true := bne_iff_ne.mpr c6
     obtain rfl := Option.some.inj H
     go_enter Tryd.func9, Tryd.ntmps9
     go_wp2_with (first | ((with_reducible refine gate_dst (N := 4) rfl ?_); (try (refine gate_guard (by rfl) ?_; dsimp only)); refine Kd.R_lit (Kd.int .i64) _ 3 ?hg (N := 4) ?hd (xs := ([1, 3] : List Int)) (inner := [.int .i64 1, .int .i64 3]) (ok := fun _ => True) (okp := fun _ => True) ?hr ?hp (fun _ hk => hk) trivial (Below.refl _ _) (Nat.le_refl _) (by simp) ?_; (case hd => rfl); (case hg => rfl); (case hr => first | (go_simp; done) | (go_simp; rfl)); (case hp => exact (Reps.one (show Kd.M (Kd.int .i64) _ _ _ 1 [.int .i64 1] from rfl) (Reps.one (show Kd.M (Kd.int .i64) _ _ _ 3 [.int .i64 3] from rfl) (Reps.none _ _)))); intro v259 w18 ho19 hb hg_ hnew_; clear hg_ hnew_; (first | rw [← Ny258.out] at ho19 | (simp only [Int.reduceToNat] at ho19; rw [← Ny258.out] at ho19)); have n0_ := zM (Kd.R_lower ho19 (below_size (by repeat (first | (with_reducible first | exact HB.out | apply zL | apply zP | apply zW) | exact HB.out)))); have n1_ := zM (below_step (by repeat (first | (with_reducible first | exact HB.out | apply zL | apply zP | apply zW) | exact HB.out)) hb); clear HB; have HO260 := n0_; have HB := n1_; clear n0_ n1_; clear hb ho19; obtain ⟨Ao20, co20, eo20⟩ := Kd.R_slice HO260.out; subst eo20) | ((with_reducible refine gate_callee (f := 7) rfl ?_); refine goesL_ (some 6) rfl rfl Tryd.func7 (by kernel_rfl) rfl #[.agg #[.bool false, .slice Ao20 y258.length co20, .int .i64 0, .int .u64 0, .int .u64 0, .slice none 0 0]] rfl (by (try simp only [zY, List.map_cons, List.map_nil]); first | done | rfl | (simp only [zV, zX]; rfl)) ?_; (refine (record_Put.calls k false _ _ y258 0 0 0 _ _ ([] : List (S47)) t261 _ ?side1 ?side2 ?side3 ?side4 A1.out).mono ?_); (case side1 => repeat (first | exact (Kd.R_reads' HO260.out).2.2 | (with_reducible refine Kd.C_alloc ?_ _) | (with_reducible refine Kd.C_drewN ?_ _) | (with_reducible refine Kd.C_drew ?_))); (case side2 => exact (Kd.R_reads' HO260.out).2.1); (case side3 => exact Kd.C_nil _ _); (case side4 => exact Nat.le_refl _); rintro e w21 ⟨rfl, hb⟩; refine ⟨_, rfl, ?_⟩; have n0_ := zM (Kd.R_below (by (with_reducible repeat (first | apply Kd.R_alloc | apply Kd.R_drewN | apply Kd.R_drew)); exact HO260.out) hb); have n1_ := zM (below_step (by repeat (first | (with_reducible first | exact HB.out | apply zL | apply zP | apply zW) | exact HB.out)) hb); clear HO260; clear HB; have HO260 := n0_; have HB := n1_; clear n0_ n1_; (try clear hb); (try clear hb2); (try clear hk); (try clear hi)) | ((with_reducible refine gate_callee (f := 8) rfl ?_); refine goesL_ (some 7) rfl rfl Tryd.func8 (by kernel_rfl) rfl #[.string t261] rfl (by (try simp only [zY, List.map_cons, List.map_nil]); first | done | rfl | (simp only [zV, zX]; rfl)) ?_; (with_reducible refine (record_Get.calls k t261 t262 t263 t266 t267 t268 t269 t272 _ A2.out).mono ?_); rintro e w22 ⟨v264, v270, rfl, ho0, ho1, hb⟩; refine ⟨_, rfl, ?_⟩; have n0_ := zM (Kd.R_elder' (by (with_reducible repeat (first | apply Kd.R_alloc | apply Kd.R_drewN | apply Kd.R_drew)); exact HO260.out) (Kd.R_base ho0) hb); have n1_ := zM (Kd.R_lower (Kd.R_new' ho0 (Kd.R_lt (by (with_reducible repeat (first | apply Kd.R_alloc | apply Kd.R_drewN | apply Kd.R_drew)); exact HO260.out))) (below_size (by repeat (first | (with_reducible first | exact HB.out | apply zL | apply zP | apply zW) | exact HB.out)))); have n2_ := zM (Kd.R_lower ho1 (below_size (by repeat (first | (with_reducible first | exact HB.out | apply zL | apply zP | apply zW) | exact HB.out)))); have n3_ := zM (below_step (by repeat (first | (with_reducible first | exact HB.out | apply zL | apply zP | apply zW) | exact HB.out)) hb); clear HO260; clear HB; have HO260 := n0_; have HO265 := n1_; have HO271 := n2_; have HB := n3_; clear n0_ n1_ n2_ n3_; (try clear hb); (try clear hb2); (try clear hk); (try clear hi); (try clear ho0); (try clear ho1)) | ((with_reducible refine gate_dst (N := 1) rfl ?_); (try (refine gate_guard (by rfl) ?_; dsimp only)); refine box_event ?hg (N := 1) ?hd (cs := #[.bool false, .slice none 0 0, .int .i64 0, .int .u64 0, .int .u64 0, .slice none 0 0]) (t := 26) ?hr ?_; (case hd => rfl); (case hg => rfl); (case hr => first | (go_simp; done) | (go_simp; rfl)); intro gb273 hg w23 hbox hb; have n0_ := zM (Kd.R_below (by (with_reducible repeat (first | apply Kd.R_alloc | apply Kd.R_drewN | apply Kd.R_drew)); exact HO260.out) hb); have n1_ := zM (Kd.R_below (by (with_reducible repeat (first | apply Kd.R_alloc | apply Kd.R_drewN | apply Kd.R_drew)); exact HO265.out) hb); have n2_ := zM (Kd.R_below (by (with_reducible repeat (first | apply Kd.R_alloc | apply Kd.R_drewN | apply Kd.R_drew)); exact HO271.out) hb); have n3_ := zM (below_step (by repeat (first | (with_reducible first | exact HB.out | apply zL | apply zP | apply zW) | exact HB.out)) hb); have n4_ := zM (hbox); have n5_ := zM ((by rw [hg]; exact (below_size (by repeat (first | (with_reducible first | exact HB.out | apply zL | apply zP | apply zW) | exact HB.out))) : w.heap.size ≤ gb273)); have n6_ := zM ((by rw [hg]; exact (below_size (by repeat (first | (with_reducible first | exact HB.out | apply zL | apply zP | apply zW) | exact HB.out))) : w.heap.size ≤ gb273)); clear HO260; clear HO265; clear HO271; clear HB; have HO260 := n0_; have HO265 := n1_; have HO271 := n2_; have HB := n3_; have BK273 := n4_; have GW273 := n5_; have GE273 := n6_; clear n0_ n1_ n2_ n3_ n4_ n5_ n6_; clear hb hbox hg; have hcz24_0 : w23.cell? ⟨gb273, 0, none⟩ = some (.bool false) := (zC BK273.out 0).trans rfl; have hcz24_1 : w23.cell? ⟨gb273, 1, none⟩ = some (.slice none 0 0) := (zC BK273.out 1).trans rfl; have hcz24_2 : w23.cell? ⟨gb273, 2, none⟩ = some (.int .i64 0) := (zC BK273.out 2).trans rfl; have hcz24_3 : w23.cell? ⟨gb273, 3, none⟩ = some (.int .u64 0) := (zC BK273.out 3).trans rfl; have hcz24_4 : w23.cell? ⟨gb273, 4, none⟩ = some (.int .u64 0) := (zC BK273.out 4).trans rfl; have hcz24_5 : w23.cell? ⟨gb273, 5, none⟩ = some (.slice none 0 0) := (zC BK273.out 5).trans rfl; have hfz24_0 := zF BK273.out 0; have hfz24_1 := zF BK273.out 1; have hfz24_2 := zF BK273.out 2; have hfz24_3 := zF BK273.out 3; have hfz24_4 := zF BK273.out 4; have hfz24_5 := zF BK273.out 5; obtain ⟨Ao25, co25, eo25⟩ := Kd.R_slice HO265.out; subst eo25; obtain ⟨Ao26, co26, eo26⟩ := Kd.R_slice HO271.out; subst eo26; have p274 : 0 ≤ (1 : Int) := (by omega); have q274 : 1 < (t263.length : Int) := of_decide_eq_true (by first | (with_reducible assumption) | assumption); obtain ⟨ad274, e274, hx274_0⟩ := Kd.at_int (Kd.R_reads' HO265.out).2.2 1 p274 q274; cases e274; (try simp only [show (1 : Int).toNat = 1 from rfl, Nat.reduceMul, Nat.reduceEqDiff, Go.Addr.add, ↓reduceIte] at hx274_0); have qi274 : (1 < t263.length) = True := eq_true (by omega); (try rw [show ((1 : Int)).toNat = 1 from rfl] at hx274_0); have hn274_0 : ad274.block ≠ gb273 := Kd.own_blk (Kd.R_ne HO265.out BK273.out (by decide)); have hn274_1 : ad274.block ≠ gb273 := Kd.own_blk (Kd.R_ne HO265.out BK273.out (by decide)); have hn274_2 : ad274.block ≠ gb273 := Kd.own_blk (Kd.R_ne HO265.out BK273.out (by decide)); have hn274_3 : ad274.block ≠ gb273 := Kd.own_blk (Kd.R_ne HO265.out BK273.out (by decide)); have hn274_4 : ad274.block ≠ gb273 := Kd.own_blk (Kd.R_ne HO265.out BK273.out (by decide)); have hn274_5 : ad274.block ≠ gb273 := Kd.own_blk (Kd.R_ne HO265.out BK273.out (by decide)); replace hx274_0 := (cell_far (p := ⟨gb273, 0, none⟩) (by first | (rw [add_block]; exact hn274_0) | (show (Addr.add _ _).block ≠ _; rw [add_block]; exact hn274_0) | exact hn274_0) (.bool t262)).trans hx274_0; replace hx274_0 := (cell_far (p := ⟨gb273, 1, none⟩) (by first | (rw [add_block]; exact hn274_1) | (show (Addr.add _ _).block ≠ _; rw [add_block]; exact hn274_1) | exact hn274_1) (.slice (some ad274) t263.length co25)).trans hx274_0; replace hx274_0 := (cell_far (p := ⟨gb273, 2, none⟩) (by first | (rw [add_block]; exact hn274_2) | (show (Addr.add _ _).block ≠ _; rw [add_block]; exact hn274_2) | exact hn274_2) (.int .i64 t266)).trans hx274_0; replace hx274_0 := (cell_far (p := ⟨gb273, 3, none⟩) (by first | (rw [add_block]; exact hn274_3) | (show (Addr.add _ _).block ≠ _; rw [add_block]; exact hn274_3) | exact hn274_3) (.int .u64 t267)).trans hx274_0; replace hx274_0 := (cell_far (p := ⟨gb273, 4, none⟩) (by first | (rw [add_block]; exact hn274_4) | (show (Addr.add _ _).block ≠ _; rw [add_block]; exact hn274_4) | exact hn274_4) (.int .u64 t268)).trans hx274_0; replace hx274_0 := (cell_far (p := ⟨gb273, 5, none⟩) (by first | (rw [add_block]; exact hn274_5) | (show (Addr.add _ _).block ≠ _; rw [add_block]; exact hn274_5) | exact hn274_5) (.slice Ao26 t269.length co26)).trans hx274_0; clear hn274_0; clear hn274_1; clear hn274_2; clear hn274_3; clear hn274_4; clear hn274_5; replace p274 := eq_true p274; replace q274 := eq_true q274))
     go_ret
     exact ⟨by first | rfl | (simp [errW_none, errW_some] <;> rfl) | (simp [*, errW_none, errW_some] <;> rfl), by repeat (first | (with_reducible first | exact HB.out | apply zL | apply zP | apply zW | refine zS ?_ GE273.out) | exact HB.out)⟩
   ·rw [if_neg c5] at H
    exact absurd H (by simp)
  ·rw [if_neg c4] at H
   have c4b0 : ((t263.length : Int) == 2) = false := beq_eq_false_iff_ne.mpr c4
   have c4b1 : ((t263.length : Int) != 2) = true := bne_iff_ne.mpr c4
   obtain rfl := Option.some.inj H
   go_enter Tryd.func9, Tryd.ntmps9
   go_wp2_with (first | ((with_reducible refine gate_dst (N := 4) rfl ?_); (try (refine gate_guard (by rfl) ?_; dsimp only)); refine Kd.R_lit (Kd.int .i64) _ 3 ?hg (N := 4) ?hd (xs := ([1, 3] : List Int)) (inner := [.int .i64 1, .int .i64 3]) (ok := fun _ => True) (okp := fun _ => True) ?hr ?hp (fun _ hk => hk) trivial (Below.refl _ _) (Nat.le_refl _) (by simp) ?_; (case hd => rfl); (case hg => rfl); (case hr => first | (go_simp; done) | (go_simp; rfl)); (case hp => exact (Reps.one (show Kd.M (Kd.int .i64) _ _ _ 1 [.int .i64 1] from rfl) (Reps.one (show Kd.M (Kd.int .i64) _ _ _ 3 [.int .i64 3] from rfl) (Reps.none _ _)))); intro v259 w27 ho28 hb hg_ hnew_; clear hg_ hnew_; (first | rw [← Ny258.out] at ho28 | (simp only [Int.reduceToNat] at ho28; rw [← Ny258.out] at ho28)); have n0_ := zM (Kd.R_lower ho28 (below_size (by repeat (first | (with_reducible first | exact HB.out | apply zL | apply zP | apply zW) | exact HB.out)))); have n1_ := zM (below_step (by repeat (first | (with_reducible first | exact HB.out | apply zL | apply zP | apply zW) | exact HB.out)) hb); clear HB; have HO260 := n0_; have HB := n1_; clear n0_ n1_; clear hb ho28; obtain ⟨Ao29, co29, eo29⟩ := Kd.R_slice HO260.out; subst eo29) | ((with_reducible refine gate_callee (f := 7) rfl ?_); refine goesL_ (some 6) rfl rfl Tryd.func7 (by kernel_rfl) rfl #[.agg #[.bool false, .slice Ao29 y258.length co29, .int .i64 0, .int .u64 0, .int .u64 0, .slice none 0 0]] rfl (by (try simp only [zY, List.map_cons, List.map_nil]); first | done | rfl | (simp only [zV, zX]; rfl)) ?_; (refine (record_Put.calls k false _ _ y258 0 0 0 _ _ ([] : List (S47)) t261 _ ?side1 ?side2 ?side3 ?side4 A1.out).mono ?_); (case side1 => repeat (first | exact (Kd.R_reads' HO260.out).2.2 | (with_reducible refine Kd.C_alloc ?_ _) | (with_reducible refine Kd.C_drewN ?_ _) | (with_reducible refine Kd.C_drew ?_))); (case side2 => exact (Kd.R_reads' HO260.out).2.1); (case side3 => exact Kd.C_nil _ _); (case side4 => exact Nat.le_refl _); rintro e w30 ⟨rfl, hb⟩; refine ⟨_, rfl, ?_⟩; have n0_ := zM (Kd.R_below (by (with_reducible repeat (first | apply Kd.R_alloc | apply Kd.R_drewN | apply Kd.R_drew)); exact HO260.out) hb); have n1_ := zM (below_step (by repeat (first | (with_reducible first | exact HB.out | apply zL | apply zP | apply zW) | exact HB.out)) hb); clear HO260; clear HB; have HO260 := n0_; have HB := n1_; clear n0_ n1_; (try clear hb); (try clear hb2); (try clear hk); (try clear hi)) | ((with_reducible refine gate_callee (f := 8) rfl ?_); refine goesL_ (some 7) rfl rfl Tryd.func8 (by kernel_rfl) rfl #[.string t261] rfl (by (try simp only [zY, List.map_cons, List.map_nil]); first | done | rfl | (simp only [zV, zX]; rfl)) ?_; (with_reducible refine (record_Get.calls k t261 t262 t263 t266 t267 t268 t269 t272 _ A2.out).mono ?_); rintro e w31 ⟨v264, v270, rfl, ho0, ho1, hb⟩; refine ⟨_, rfl, ?_⟩; have n0_ := zM (Kd.R_elder' (by (with_reducible repeat (first | apply Kd.R_alloc | apply Kd.R_drewN | apply Kd.R_drew)); exact HO260.out) (Kd.R_base ho0) hb); have n1_ := zM (Kd.R_lower (Kd.R_new' ho0 (Kd.R_lt (by (with_reducible repeat (first | apply Kd.R_alloc | apply Kd.R_drewN | apply Kd.R_drew)); exact HO260.out))) (below_size (by repeat (first | (with_reducible first | exact HB.out | apply zL | apply zP | apply zW) | exact HB.out)))); have n2_ := zM (Kd.R_lower ho1 (below_size (by repeat (first | (with_reducible first | exact HB.out | apply zL | apply zP | apply zW) | exact HB.out)))); have n3_ := zM (below_step (by repeat (first | (with_reducible first | exact HB.out | apply zL | apply zP | apply zW) | exact HB.out)) hb); clear HO260; clear HB; have HO260 := n0_; have HO265 := n1_; have HO271 := n2_; have HB := n3_; clear n0_ n1_ n2_ n3_; (try clear hb); (try clear hb2); (try clear hk); (try clear hi); (try clear ho0); (try clear ho1)) | ((with_reducible refine gate_dst (N := 1) rfl ?_); (try (refine gate_guard (by rfl) ?_; dsimp only)); refine box_event ?hg (N := 1) ?hd (cs := #[.bool false, .slice none 0 0, .int .i64 0, .int .u64 0, .int .u64 0, .slice none 0 0]) (t := 26) ?hr ?_; (case hd => rfl); (case hg => rfl); (case hr => first | (go_simp; done) | (go_simp; rfl)); intro gb273 hg w32 hbox hb; have n0_ := zM (Kd.R_below (by (with_reducible repeat (first | apply Kd.R_alloc | apply Kd.R_drewN | apply Kd.R_drew)); exact HO260.out) hb); have n1_ := zM (Kd.R_below (by (with_reducible repeat (first | apply Kd.R_alloc | apply Kd.R_drewN | apply Kd.R_drew)); exact HO265.out) hb); have n2_ := zM (Kd.R_below (by (with_reducible repeat (first | apply Kd.R_alloc | apply Kd.R_drewN | apply Kd.R_drew)); exact HO271.out) hb); have n3_ := zM (below_step (by repeat (first | (with_reducible first | exact HB.out | apply zL | apply zP | apply zW) | exact HB.out)) hb); have n4_ := zM (hbox); have n5_ := zM ((by rw [hg]; exact (below_size (by repeat (first | (with_reducible first | exact HB.out | apply zL | apply zP | apply zW) | exact HB.out))) : w.heap.size ≤ gb273)); have n6_ := zM ((by rw [hg]; exact (below_size (by repeat (first | (with_reducible first | exact HB.out | apply zL | apply zP | apply zW) | exact HB.out))) : w.heap.size ≤ gb273)); clear HO260; clear HO265; clear HO271; clear HB; have HO260 := n0_; have HO265 := n1_; have HO271 := n2_; have HB := n3_; have BK273 := n4_; have GW273 := n5_; have GE273 := n6_; clear n0_ n1_ n2_ n3_ n4_ n5_ n6_; clear hb hbox hg; have hcz33_0 : w32.cell? ⟨gb273, 0, none⟩ = some (.bool false) := (zC BK273.out 0).trans rfl; have hcz33_1 : w32.cell? ⟨gb273, 1, none⟩ = some (.slice none 0 0) := (zC BK273.out 1).trans rfl; have hcz33_2 : w32.cell? ⟨gb273, 2, none⟩ = some (.int .i64 0) := (zC BK273.out 2).trans rfl; have hcz33_3 : w32.cell? ⟨gb273, 3, none⟩ = some (.int .u64 0) := (zC BK273.out 3).trans rfl; have hcz33_4 : w32.cell? ⟨gb273, 4, none⟩ = some (.int .u64 0) := (zC BK273.out 4).trans rfl; have hcz33_5 : w32.cell? ⟨gb273, 5, none⟩ = some (.slice none 0 0) := (zC BK273.out 5).trans rfl; have hfz33_0 := zF BK273.out 0; have hfz33_1 := zF BK273.out 1; have hfz33_2 := zF BK273.out 2; have hfz33_3 := zF BK273.out 3; have hfz33_4 := zF BK273.out 4; have hfz33_5 := zF BK273.out 5; obtain ⟨Ao34, co34, eo34⟩ := Kd.R_slice HO265.out; subst eo34; obtain ⟨Ao35, co35, eo35⟩ := Kd.R_slice HO271.out; subst eo35))
   go_ret
   exact ⟨by first | rfl | (simp [errW_none, errW_some] <;> rfl) | (simp [*, errW_none, errW_some] <;> rfl), by repeat (first | (with_reducible first | exact HB.out | apply zL | apply zP | apply zW | refine zS ?_ GE273.out) | exact HB.out)⟩
 ·rw [if_neg c3] at H
  have c3b0 : (t272 == 0) = false := beq_eq_false_iff_ne.mpr c3
  have c3b1 : (t272 != 0) = true := bne_iff_ne.mpr c3
  obtain rfl := Option.some.inj H
  go_enter Tryd.func9, Tryd.ntmps9
  go_wp2_with (first | ((with_reducible refine gate_dst (N := 4) rfl ?_); (try (refine gate_guard (by rfl) ?_; dsimp only)); refine Kd.R_lit (Kd.int .i64) _ 3 ?hg (N := 4) ?hd (xs := ([1, 3] : List Int)) (inner := [.int .i64 1, .int .i64 3]) (ok := fun _ => True) (okp := fun _ => True) ?hr ?hp (fun _ hk => hk) trivial (Below.refl _ _) (Nat.le_refl _) (by simp) ?_; (case hd => rfl); (case hg => rfl); (case hr => first | (go_simp; done) | (go_simp; rfl)); (case hp => exact (Reps.one (show Kd.M (Kd.int .i64) _ _ _ 1 [.int .i64 1] from rfl) (Reps.one (show Kd.M (Kd.int .i64) _ _ _ 3 [.int .i64 3] from rfl) (Reps.none _ _)))); intro v259 w36 ho37 hb hg_ hnew_; clear hg_ hnew_; (first | rw [← Ny258.out] at ho37 | (simp only [Int.reduceToNat] at ho37; rw [← Ny258.out] at ho37)); have n0_ := zM (Kd.R_lower ho37 (below_size (by repeat (first | (with_reducible first | exact HB.out | apply zL | apply zP | apply zW) | exact HB.out)))); have n1_ := zM (below_step (by repeat (first | (with_reducible first | exact HB.out | apply zL | apply zP | apply zW) | exact HB.out)) hb); clear HB; have HO260 := n0_; have HB := n1_; clear n0_ n1_; clear hb ho37; obtain ⟨Ao38, co38, eo38⟩ := Kd.R_slice HO260.out; subst eo38) | ((with_reducible refine gate_callee (f := 7) rfl ?_); refine goesL_ (some 6) rfl rfl Tryd.func7 (by kernel_rfl) rfl #[.agg #[.bool false, .slice Ao38 y258.length co38, .int .i64 0, .int .u64 0, .int .u64 0, .slice none 0 0]] rfl (by (try simp only [zY, List.map_cons, List.map_nil]); first | done | rfl | (simp only [zV, zX]; rfl)) ?_; (refine (record_Put.calls k false _ _ y258 0 0 0 _ _ ([] : List (S47)) t261 _ ?side1 ?side2 ?side3 ?side4 A1.out).mono ?_); (case side1 => repeat (first | exact (Kd.R_reads' HO260.out).2.2 | (with_reducible refine Kd.C_alloc ?_ _) | (with_reducible refine Kd.C_drewN ?_ _) | (with_reducible refine Kd.C_drew ?_))); (case side2 => exact (Kd.R_reads' HO260.out).2.1); (case side3 => exact Kd.C_nil _ _); (case side4 => exact Nat.le_refl _); rintro e w39 ⟨rfl, hb⟩; refine ⟨_, rfl, ?_⟩; have n0_ := zM (Kd.R_below (by (with_reducible repeat (first | apply Kd.R_alloc | apply Kd.R_drewN | apply Kd.R_drew)); exact HO260.out) hb); have n1_ := zM (below_step (by repeat (first | (with_reducible first | exact HB.out | apply zL | apply zP | apply zW) | exact HB.out)) hb); clear HO260; clear HB; have HO260 := n0_; have HB := n1_; clear n0_ n1_; (try clear hb); (try clear hb2); (try clear hk); (try clear hi)) | ((with_reducible refine gate_callee (f := 8) rfl ?_); refine goesL_ (some 7) rfl rfl Tryd.func8 (by kernel_rfl) rfl #[.string t261] rfl (by (try simp only [zY, List.map_cons, List.map_nil]); first | done | rfl | (simp only [zV, zX]; rfl)) ?_; (with_reducible refine (record_Get.calls k t261 t262 t263 t266 t267 t268 t269 t272 _ A2.out).mono ?_); rintro e w40 ⟨v264, v270, rfl, ho0, ho1, hb⟩; refine ⟨_, rfl, ?_⟩; have n0_ := zM (Kd.R_elder' (by (with_reducible repeat (first | apply Kd.R_alloc | apply Kd.R_drewN | apply Kd.R_drew)); exact HO260.out) (Kd.R_base ho0) hb); have n1_ := zM (Kd.R_lower (Kd.R_new' ho0 (Kd.R_lt (by (with_reducible repeat (first | apply Kd.R_alloc | apply Kd.R_drewN | apply Kd.R_drew)); exact HO260.out))) (below_size (by repeat (first | (with_reducible first | exact HB.out | apply zL | apply zP | apply zW) | exact HB.out)))); have n2_ := zM (Kd.R_lower ho1 (below_size (by repeat (first | (with_reducible first | exact HB.out | apply zL | apply zP | apply zW) | exact HB.out)))); have n3_ := zM (below_step (by repeat (first | (with_reducible first | exact HB.out | apply zL | apply zP | apply zW) | exact HB.out)) hb); clear HO260; clear HB; have HO260 := n0_; have HO265 := n1_; have HO271 := n2_; have HB := n3_; clear n0_ n1_ n2_ n3_; (try clear hb); (try clear hb2); (try clear hk); (try clear hi); (try clear ho0); (try clear ho1)) | ((with_reducible refine gate_dst (N := 1) rfl ?_); (try (refine gate_guard (by rfl) ?_; dsimp only)); refine box_event ?hg (N := 1) ?hd (cs := #[.bool false, .slice none 0 0, .int .i64 0, .int .u64 0, .int .u64 0, .slice none 0 0]) (t := 26) ?hr ?_; (case hd => rfl); (case hg => rfl); (case hr => first | (go_simp; done) | (go_simp; rfl)); intro gb273 hg w41 hbox hb; have n0_ := zM (Kd.R_below (by (with_reducible repeat (first | apply Kd.R_alloc | apply Kd.R_drewN | apply Kd.R_drew)); exact HO260.out) hb); have n1_ := zM (Kd.R_below (by (with_reducible repeat (first | apply Kd.R_alloc | apply Kd.R_drewN | apply Kd.R_drew)); exact HO265.out) hb); have n2_ := zM (Kd.R_below (by (with_reducible repeat (first | apply Kd.R_alloc | apply Kd.R_drewN | apply Kd.R_drew)); exact HO271.out) hb); have n3_ := zM (below_step (by repeat (first | (with_reducible first | exact HB.out | apply zL | apply zP | apply zW) | exact HB.out)) hb); have n4_ := zM (hbox); have n5_ := zM ((by rw [hg]; exact (below_size (by repeat (first | (with_reducible first | exact HB.out | apply zL | apply zP | apply zW) | exact HB.out))) : w.heap.size ≤ gb273)); have n6_ := zM ((by rw [hg]; exact (below_size (by repeat (first | (with_reducible first | exact HB.out | apply zL | apply zP | apply zW) | exact HB.out))) : w.heap.size ≤ gb273)); clear HO260; clear HO265; clear HO271; clear HB; have HO260 := n0_; have HO265 := n1_; have HO271 := n2_; have HB := n3_; have BK273 := n4_; have GW273 := n5_; have GE273 := n6_; clear n0_ n1_ n2_ n3_ n4_ n5_ n6_; clear hb hbox hg; have hcz42_0 : w41.cell? ⟨gb273, 0, none⟩ = some (.bool false) := (zC BK273.out 0).trans rfl; have hcz42_1 : w41.cell? ⟨gb273, 1, none⟩ = some (.slice none 0 0) := (zC BK273.out 1).trans rfl; have hcz42_2 : w41.cell? ⟨gb273, 2, none⟩ = some (.int .i64 0) := (zC BK273.out 2).trans rfl; have hcz42_3 : w41.cell? ⟨gb273, 3, none⟩ = some (.int .u64 0) := (zC BK273.out 3).trans rfl; have hcz42_4 : w41.cell? ⟨gb273, 4, none⟩ = some (.int .u64 0) := (zC BK273.out 4).trans rfl; have hcz42_5 : w41.cell? ⟨gb273, 5, none⟩ = some (.slice none 0 0) := (zC BK273.out 5).trans rfl; have hfz42_0 := zF BK273.out 0; have hfz42_1 := zF BK273.out 1; have hfz42_2 := zF BK273.out 2; have hfz42_3 := zF BK273.out 3; have hfz42_4 := zF BK273.out 4; have hfz42_5 := zF BK273.out 5; obtain ⟨Ao43, co43, eo43⟩ := Kd.R_slice HO265.out; subst eo43; obtain ⟨Ao44, co44, eo44⟩ := Kd.R_slice HO271.out; subst eo44))
  go_ret
  exact ⟨by first | rfl | (simp [errW_none, errW_some] <;> rfl) | (simp [*, errW_none, errW_some] <;> rfl), by repeat (first | (with_reducible first | exact HB.out | apply zL | apply zP | apply zW | refine zS ?_ GE273.out) | exact HB.out)⟩

/-! ### lodestoneref05_Num: function 14 -/
def lodestoneref05_Num.l0 : Nat → Int → ByteArray → Option (ByteArray)
 | 0, _, _ => none
 | k + 1, x0, x3 => if x0 > 0 then ((some (([(Int.tmod x0 256) % 256] : List Int) : List Int)).bind fun y276 => (if (strOfNums y276).size + x3.size ≤ 9223372036854775807 then (lodestoneref05_Num.l0 k (IntKind.u64.wrap (Int.tdiv x0 256)) ((strOfNums y276) ++ x3)) else (none))) else ((some (([(wrap64 (16 + (x3.size : Int))) % 256] : List Int) : List Int)).bind fun y279 => (if (strOfNums y279).size + x3.size ≤ 9223372036854775807 then (some ((strOfNums y279) ++ x3)) else (none)))
def lodestoneref05_Num.f (k : Nat) (a0 : Int) : Option (ByteArray) := lodestoneref05_Num.l0 k a0 (⟨#[]⟩ : ByteArray)
theorem lodestoneref05_Num.mono_l : ∀ k, (∀ y0 y1, LeO (lodestoneref05_Num.l0 k y0 y1) (lodestoneref05_Num.l0 (k + 1) y0 y1))
 | 0 => fun _ _ r h => by simp [lodestoneref05_Num.l0] at h
 | k + 1 => by
  have ih0 := lodestoneref05_Num.mono_l k
  ·intro y0 y1
   unfold lodestoneref05_Num.l0
   repeat' first
   | (with_reducible exact ih0 _ _)
   | (with_reducible exact LeO.refl _)
   | (with_reducible exact LeO.none _)
   | (with_reducible refine LeO.ite ?_ ?_)
   | (with_reducible refine LeO.bind ?_ (fun _ => ?_))
   | exact ih0 _ _
   | exact LeO.none _
   | refine LeO.ite ?_ ?_
   | refine LeO.bind ?_ (fun _ => ?_)
theorem lodestoneref05_Num.mono : ∀ a0 k, LeO (lodestoneref05_Num.f k a0) (lodestoneref05_Num.f (k + 1) a0) := by
 intro a0 k
 have ih0 := lodestoneref05_Num.mono_l k
 unfold lodestoneref05_Num.f
 repeat' first
   | (with_reducible exact ih0 _ _)
   | (with_reducible exact LeO.refl _)
   | (with_reducible exact LeO.none _)
   | (with_reducible refine LeO.ite ?_ ?_)
   | (with_reducible refine LeO.bind ?_ (fun _ => ?_))
   | exact ih0 _ _
   | exact LeO.none _
   | refine LeO.ite ?_ ?_
   | refine LeO.bind ?_ (fun _ => ?_)
set_option maxHeartbeats 8000000 in
set_option maxRecDepth 100000 in
theorem lodestoneref05_Num.calls (k : Nat) (a0 : Int) (r : ByteArray) (w : World) (h : lodestoneref05_Num.f k a0 = some r) :
  Calls Tryd.prog 14 #[.int .u64 a0] w fun e w' => e = .returned (.string r) ∧ Below w.heap.size w w' := by
 have HB := zM (Below.refl w.heap.size w)
 have H : (lodestoneref05_Num.l0 k a0 (⟨#[]⟩ : ByteArray)) = some r := h
 clear h
 have H' := zM H
 clear H
 go_enter Tryd.func14, Tryd.ntmps14
 go_wp2
 go_loopg [0, 3] k (fun kq v0 v3 w' => ∃ (x0_1 : Int) (x3_1 : ByteArray), v0 = .int .u64 x0_1 ∧ v3 = .string x3_1 ∧ Aside0 (lodestoneref05_Num.l0 kq x0_1 x3_1 = some r) ∧ Aside0 (kq ≤ k) ∧ Aside0 (Below w.heap.size w w'))
 case atStart => exact ⟨(a0), ((⟨#[]⟩ : ByteArray)), (by first | rfl | (simp; done) | (simp [*]; done)), (by first | rfl | (simp; done) | (simp [*]; done)), H', ⟨Nat.le_refl _⟩, ⟨by repeat (first | (with_reducible first | exact HB.out | apply zL | apply zP | apply zW) | exact HB.out)⟩⟩
 case round =>
  clear H'
  try clear c1
  obtain ⟨x0_1, x3_1, rfl, rfl, HA, HK1, HB⟩ := hrel
  cases gk with
  | zero => exact absurd HA.out (by simp [lodestoneref05_Num.l0])
  | succ k1 =>
   have H := HA.out
   clear HA
   simp only [lodestoneref05_Num.l0] at H
   by_cases c2 : x0_1 > 0
   ·rw [if_pos c2] at H
    have c2b0 : decide (0 < x0_1) = true := decide_eq_true c2
    clear c2
    obtain ⟨y276, hy276⟩ : ∃ y_ : List Int, y_ = (([(Int.tmod x0_1 256) % 256] : List Int)) := ⟨_, rfl⟩
    replace H : (if (strOfNums y276).size + x3_1.size ≤ 9223372036854775807 then (lodestoneref05_Num.l0 k1 (IntKind.u64.wrap (Int.tdiv x0_1 256)) ((strOfNums y276) ++ x3_1)) else (none)) = some r := by first | (rw [hy276]; with_reducible exact H) | (have H2_ := (Option.bind_some _ _).symm.trans H; rw [hy276]; with_reducible exact H2_) | (have H2_ := (Option.bind_some _ _).symm.trans H; with_reducible exact H2_) | with_reducible exact H | (rw [hy276]; exact H) | exact H
    have Ny276 := zM hy276
    clear hy276
    by_cases c3 : (strOfNums y276).size + x3_1.size ≤ 9223372036854775807
    ·rw [if_pos c3] at H
     have c3b0 := eq_true c3
     have c3b1 : decide ((strOfNums y276).size + x3_1.size ≤ 9223372036854775807) = true := decide_eq_true c3
     try have c3b2 : (9223372036854775807 < (strOfNums y276).size + x3_1.size) = False := eq_false (Nat.not_lt.2 c3)
     have H' := zM H
     clear H
     go_wp2_with (first | ((with_reducible refine gate_dst (N := 9) rfl ?_); refine Kd.R_lit (Kd.int .u8) _ 5 ?hg (N := 9) ?hd (xs := ([(Int.tmod x0_1 256) % 256] : List Int)) (inner := [.int .u8 ((Int.tmod x0_1 256) % 256)]) (ok := fun _ => True) (okp := fun _ => True) ?hr ?hp (fun _ hk => hk) trivial (Below.refl _ _) (Nat.le_refl _) (by simp) ?_; (case hd => rfl); (case hg => rfl); (case hr => first | (go_simp; done) | (go_simp; rfl)); (case hp => exact (Reps.one (show Kd.M (Kd.int .u8) _ _ _ ((Int.tmod x0_1 256) % 256) [.int .u8 ((Int.tmod x0_1 256) % 256)] from rfl) (Reps.none _ _))); intro v277 w4 ho5 hb hg_ hnew_; clear hg_ hnew_; (first | rw [← Ny276.out] at ho5 | (simp only [Int.reduceToNat] at ho5; rw [← Ny276.out] at ho5)); have n0_ := zM (Kd.R_lower ho5 (below_size (by repeat (first | (with_reducible first | exact HB.out | apply zL | apply zP | apply zW) | exact HB.out)))); have n1_ := zM (below_step (by repeat (first | (with_reducible first | exact HB.out | apply zL | apply zP | apply zW) | exact HB.out)) hb); clear HB; have HO278 := n0_; have HB := n1_; clear n0_ n1_; clear hb ho5; have hcv6 := own_string (P := Tryd.prog) Tryd.underlying58 Tryd.underlying5 Tryd.underlying9 (Kd.own_of_R HO278.out)))
     go_roundg k1
     case measure => have := HK1.out; omega
     case rel => exact ⟨(IntKind.u64.wrap (Int.tdiv x0_1 256)), ((strOfNums y276) ++ x3_1), (by first | rfl | (simp; done) | (simp [*]; done)), (by first | rfl | (simp; done) | (simp [*]; done)), H', ⟨by have := HK1.out; omega⟩, ⟨by repeat (first | (with_reducible first | exact HB.out | apply zL | apply zP | apply zW) | exact HB.out)⟩⟩
    ·rw [if_neg c3] at H
     exact absurd H (by simp)
   ·rw [if_neg c2] at H
    have c2b0 : decide (0 < x0_1) = false := decide_eq_false c2
    clear c2
    obtain ⟨y279, hy279⟩ : ∃ y_ : List Int, y_ = (([(wrap64 (16 + (x3_1.size : Int))) % 256] : List Int)) := ⟨_, rfl⟩
    replace H : (if (strOfNums y279).size + x3_1.size ≤ 9223372036854775807 then (some ((strOfNums y279) ++ x3_1)) else (none)) = some r := by first | (rw [hy279]; with_reducible exact H) | (have H2_ := (Option.bind_some _ _).symm.trans H; rw [hy279]; with_reducible exact H2_) | (have H2_ := (Option.bind_some _ _).symm.trans H; with_reducible exact H2_) | with_reducible exact H | (rw [hy279]; exact H) | exact H
    have Ny279 := zM hy279
    clear hy279
    by_cases c7 : (strOfNums y279).size + x3_1.size ≤ 9223372036854775807
    ·rw [if_pos c7] at H
     have c7b0 := eq_true c7
     have c7b1 : decide ((strOfNums y279).size + x3_1.size ≤ 9223372036854775807) = true := decide_eq_true c7
     try have c7b2 : (9223372036854775807 < (strOfNums y279).size + x3_1.size) = False := eq_false (Nat.not_lt.2 c7)
     obtain rfl := Option.some.inj H
     go_wp2_with (first | ((with_reducible refine gate_dst (N := 19) rfl ?_); refine Kd.R_lit (Kd.int .u8) _ 5 ?hg (N := 19) ?hd (xs := ([(wrap64 (16 + (x3_1.size : Int))) % 256] : List Int)) (inner := [.int .u8 ((wrap64 (16 + (x3_1.size : Int))) % 256)]) (ok := fun _ => True) (okp := fun _ => True) ?hr ?hp (fun _ hk => hk) trivial (Below.refl _ _) (Nat.le_refl _) (by simp) ?_; (case hd => rfl); (case hg => rfl); (case hr => first | (go_simp; done) | (go_simp; rfl)); (case hp => exact (Reps.one (show Kd.M (Kd.int .u8) _ _ _ ((wrap64 (16 + (x3_1.size : Int))) % 256) [.int .u8 ((wrap64 (16 + (x3_1.size : Int))) % 256)] from rfl) (Reps.none _ _))); intro v280 w8 ho9 hb hg_ hnew_; clear hg_ hnew_; (first | rw [← Ny279.out] at ho9 | (simp only [Int.reduceToNat] at ho9; rw [← Ny279.out] at ho9)); have n0_ := zM (Kd.R_lower ho9 (below_size (by repeat (first | (with_reducible first | exact HB.out | apply zL | apply zP | apply zW) | exact HB.out)))); have n1_ := zM (below_step (by repeat (first | (with_reducible first | exact HB.out | apply zL | apply zP | apply zW) | exact HB.out)) hb); clear HB; have HO281 := n0_; have HB := n1_; clear n0_ n1_; clear hb ho9; have hcv10 := own_string (P := Tryd.prog) Tryd.underlying58 Tryd.underlying5 Tryd.underlying9 (Kd.own_of_R HO281.out)))
     go_ret
     exact ⟨by first | rfl | (simp [errW_none, errW_some] <;> rfl) | (simp [*, errW_none, errW_some] <;> rfl), by repeat (first | (with_reducible first | exact HB.out | apply zL | apply zP | apply zW) | exact HB.out)⟩
    ·rw [if_neg c7] at H
     exact absurd H (by simp)

/-! ### lodestoneref26_Key: function 16 -/
def lodestoneref26_Key.f (k : Nat) (a0 : Bool) (a1 : Int) : Option (ByteArray) := if a0 = true then ((lodestoneref05_Num.f k a1).bind fun t282 => (if 1 + t282.size ≤ 9223372036854775807 then (some ((⟨#[101]⟩ : ByteArray) ++ t282)) else (none))) else ((lodestoneref05_Num.f k a1).bind fun t283 => (if 1 + t283.size ≤ 9223372036854775807 then (some ((⟨#[110]⟩ : ByteArray) ++ t283)) else (none)))
theorem lodestoneref26_Key.mono : ∀ a0 a1 k, LeO (lodestoneref26_Key.f k a0 a1) (lodestoneref26_Key.f (k + 1) a0 a1) := by
 intro a0 a1 k
 unfold lodestoneref26_Key.f
 repeat' first
   | (with_reducible exact lodestoneref05_Num.mono _ _)
   | (with_reducible exact LeO.refl _)
   | (with_reducible exact LeO.none _)
   | (with_reducible refine LeO.ite ?_ ?_)
   | (with_reducible refine LeO.bind ?_ (fun _ => ?_))
   | exact lodestoneref05_Num.mono _ _
   | exact LeO.none _
   | refine LeO.ite ?_ ?_
   | refine LeO.bind ?_ (fun _ => ?_)
set_option maxHeartbeats 8000000 in
set_option maxRecDepth 100000 in
theorem lodestoneref26_Key.calls (k : Nat) (a0 : Bool) (a1 : Int) (r : ByteArray) (w : World) (h : lodestoneref26_Key.f k a0 a1 = some r) :
  Calls Tryd.prog 16 #[.bool a0, .int .u64 a1] w fun e w' => e = .returned (.string r) ∧ Below w.heap.size w w' := by
 have HB := zM (Below.refl w.heap.size w)
 have H : (if a0 = true then ((lodestoneref05_Num.f k a1).bind fun t282 => (if 1 + t282.size ≤ 9223372036854775807 then (some ((⟨#[101]⟩ : ByteArray) ++ t282)) else (none))) else ((lodestoneref05_Num.f k a1).bind fun t283 => (if 1 + t283.size ≤ 9223372036854775807 then (some ((⟨#[110]⟩ : ByteArray) ++ t283)) else (none)))) = some r := h
 clear h
 by_cases c3 : a0 = true
 ·subst c3
  have H1 : ((lodestoneref05_Num.f k a1).bind fun t282 => (if 1 + t282.size ≤ 9223372036854775807 then (some ((⟨#[101]⟩ : ByteArray) ++ t282)) else (none))) = some r := by rw [if_pos rfl] at H; exact H
  clear H
  have H := H1
  clear H1
  replace H := Option.bind_eq_some_iff.mp H
  obtain ⟨t282, A40, H⟩ := H
  replace H : (if 1 + t282.size ≤ 9223372036854775807 then (some ((⟨#[101]⟩ : ByteArray) ++ t282)) else (none)) = some r := H
  have A4 := zM A40
  clear A40
  by_cases c5 : 1 + t282.size ≤ 9223372036854775807
  ·rw [if_pos c5] at H
   have c5b0 := eq_true c5
   have c5b1 : decide (1 + t282.size ≤ 9223372036854775807) = true := decide_eq_true c5
   try have c5b2 : (9223372036854775807 < 1 + t282.size) = False := eq_false (Nat.not_lt.2 c5)
   obtain rfl := Option.some.inj H
   go_enter Tryd.func16, Tryd.ntmps16
   go_wp2_with (first | ((with_reducible refine gate_callee (f := 14) rfl ?_); refine goesL_ (some 7) rfl rfl Tryd.func14 (by kernel_rfl) rfl #[.int .u64 a1] rfl (by (try simp only [zY, List.map_cons, List.map_nil]); first | done | rfl | (simp only [zV, zX]; rfl)) ?_; (with_reducible refine (lodestoneref05_Num.calls k a1 t282 _ A4.out).mono ?_); rintro e w6 ⟨rfl, hb⟩; refine ⟨_, rfl, ?_⟩; have n0_ := zM (below_step (by repeat (first | (with_reducible first | exact HB.out | apply zL | apply zP | apply zW) | exact HB.out)) hb); clear HB; have HB := n0_; clear n0_; (try clear hb); (try clear hb2); (try clear hk); (try clear hi)))
   go_ret
   exact ⟨by first | rfl | (simp [errW_none, errW_some] <;> rfl) | (simp [*, errW_none, errW_some] <;> rfl), by repeat (first | (with_reducible first | exact HB.out | apply zL | apply zP | apply zW) | exact HB.out)⟩
  ·rw [if_neg c5] at H
   exact absurd H (by simp)
 ·replace c3 := Bool.eq_false_iff.mpr c3
  subst c3
  have H1 : ((lodestoneref05_Num.f k a1).bind fun t283 => (if 1 + t283.size ≤ 9223372036854775807 then (some ((⟨#[110]⟩ : ByteArray) ++ t283)) else (none))) = some r := by rw [if_neg (show ¬ (false = true) by decide)] at H; exact H
  clear H
  have H := H1
  clear H1
  replace H := Option.bind_eq_some_iff.mp H
  obtain ⟨t283, A70, H⟩ := H
  replace H : (if 1 + t283.size ≤ 9223372036854775807 then (some ((⟨#[110]⟩ : ByteArray) ++ t283)) else (none)) = some r := H
  have A7 := zM A70
  clear A70
  by_cases c8 : 1 + t283.size ≤ 9223372036854775807
  ·rw [if_pos c8] at H
   have c8b0 := eq_true c8
   have c8b1 : decide (1 + t283.size ≤ 9223372036854775807) = true := decide_eq_true c8
   try have c8b2 : (9223372036854775807 < 1 + t283.size) = False := eq_false (Nat.not_lt.2 c8)
   obtain rfl := Option.some.inj H
   go_enter Tryd.func16, Tryd.ntmps16
   go_wp2_with (first | ((with_reducible refine gate_callee (f := 14) rfl ?_); refine goesL_ (some 10) rfl rfl Tryd.func14 (by kernel_rfl) rfl #[.int .u64 a1] rfl (by (try simp only [zY, List.map_cons, List.map_nil]); first | done | rfl | (simp only [zV, zX]; rfl)) ?_; (with_reducible refine (lodestoneref05_Num.calls k a1 t283 _ A7.out).mono ?_); rintro e w9 ⟨rfl, hb⟩; refine ⟨_, rfl, ?_⟩; have n0_ := zM (below_step (by repeat (first | (with_reducible first | exact HB.out | apply zL | apply zP | apply zW) | exact HB.out)) hb); clear HB; have HB := n0_; clear n0_; (try clear hb); (try clear hb2); (try clear hk); (try clear hi)))
   go_ret
   exact ⟨by first | rfl | (simp [errW_none, errW_some] <;> rfl) | (simp [*, errW_none, errW_some] <;> rfl), by repeat (first | (with_reducible first | exact HB.out | apply zL | apply zP | apply zW) | exact HB.out)⟩
  ·rw [if_neg c8] at H
   exact absurd H (by simp)

/-! ### record_Beside: function 17 -/
def record_Beside.j0 : Nat → Int → Int → Int → ByteArray → Option (ByteArray)
 | 0, _, _, _, _ => none
 | k + 1, x1, x2, x3, x9 => (order_Num.f x1).bind fun t284 => (if x9.size + t284.size ≤ 9223372036854775807 then (if x2 < 0 then (some (x9 ++ t284)) else ((order_Num.f (IntKind.u64.wrap (x2))).bind fun t285 => (if (x9 ++ t284).size + t285.size ≤ 9223372036854775807 then (if x3 = 0 then (some ((x9 ++ t284) ++ t285)) else ((order_Num.f x3).bind fun t286 => (if ((x9 ++ t284) ++ t285).size + t286.size ≤ 9223372036854775807 then (some (((x9 ++ t284) ++ t285) ++ t286)) else (none)))) else (none)))) else (none))
def record_Beside.f (k : Nat) (a0 : Bool) (a1 : Int) (a2 : Int) (a3 : Int) : Option (ByteArray) := if a0 = true then (record_Beside.j0 k a1 a2 a3 (⟨#[111]⟩ : ByteArray)) else (record_Beside.j0 k a1 a2 a3 (⟨#[105]⟩ : ByteArray))
theorem record_Beside.mono_l : ∀ k, (∀ y0 y1 y2 y3, LeO (record_Beside.j0 k y0 y1 y2 y3) (record_Beside.j0 (k + 1) y0 y1 y2 y3))
 | 0 => fun _ _ _ _ r h => by simp [record_Beside.j0] at h
 | k + 1 => by
  have ih0 := record_Beside.mono_l k
  ·intro y0 y1 y2 y3
   unfold record_Beside.j0
   repeat' first
   | (with_reducible exact ih0 _ _ _ _)
   | (with_reducible exact LeO.refl _)
   | (with_reducible exact LeO.none _)
   | (with_reducible refine LeO.ite ?_ ?_)
   | (with_reducible refine LeO.bind ?_ (fun _ => ?_))
   | exact ih0 _ _ _ _
   | exact LeO.none _
   | refine LeO.ite ?_ ?_
   | refine LeO.bind ?_ (fun _ => ?_)
theorem record_Beside.mono : ∀ a0 a1 a2 a3 k, LeO (record_Beside.f k a0 a1 a2 a3) (record_Beside.f (k + 1) a0 a1 a2 a3) := by
 intro a0 a1 a2 a3 k
 have ih0 := record_Beside.mono_l k
 unfold record_Beside.f
 repeat' first
   | (with_reducible exact ih0 _ _ _ _)
   | (with_reducible exact LeO.refl _)
   | (with_reducible exact LeO.none _)
   | (with_reducible refine LeO.ite ?_ ?_)
   | (with_reducible refine LeO.bind ?_ (fun _ => ?_))
   | exact ih0 _ _ _ _
   | exact LeO.none _
   | refine LeO.ite ?_ ?_
   | refine LeO.bind ?_ (fun _ => ?_)
set_option maxHeartbeats 8000000 in
set_option maxRecDepth 100000 in
theorem record_Beside.calls (k : Nat) (a0 : Bool) (a1 : Int) (a2 : Int) (a3 : Int) (r : ByteArray) (w : World) (h : record_Beside.f k a0 a1 a2 a3 = some r) :
  Calls Tryd.prog 17 #[.bool a0, .int .u64 a1, .int .i64 a2, .int .u64 a3] w fun e w' => e = .returned (.string r) ∧ Below w.heap.size w w' := by
 have HB := zM (Below.refl w.heap.size w)
 have H : (if a0 = true then (record_Beside.j0 k a1 a2 a3 (⟨#[111]⟩ : ByteArray)) else (record_Beside.j0 k a1 a2 a3 (⟨#[105]⟩ : ByteArray))) = some r := h
 clear h
 have HC5 := zM H
 clear H
 go_enter Tryd.func17, Tryd.ntmps17
 go_upto_if 10 with (fail)
 go_cut [9] (fun v9 wc => ∃ (kq : Nat) (x9_4 : ByteArray), v9 = .string x9_4 ∧ Aside0 (record_Beside.j0 kq a1 a2 a3 x9_4 = some r) ∧ Aside0 (kq ≤ k) ∧ Aside0 (Below w.heap.size w wc))
 case first =>
  have H := HC5.out
  clear HC5
  by_cases c6 : a0 = true
  ·subst c6
   have H1 : (record_Beside.j0 k a1 a2 a3 (⟨#[111]⟩ : ByteArray)) = some r := by rw [if_pos rfl] at H; exact H
   clear H
   have H := H1
   clear H1
   have H' := zM H
   clear H
   go_wp2
   go_meet
   case rel => exact ⟨_, ((⟨#[111]⟩ : ByteArray)), (by first | rfl | (simp; done) | (simp [*]; done)), H', ⟨by first | omega | exact Nat.le_refl _⟩, ⟨by repeat (first | (with_reducible first | exact HB.out | apply zL | apply zP | apply zW) | exact HB.out)⟩⟩
  ·replace c6 := Bool.eq_false_iff.mpr c6
   subst c6
   have H1 : (record_Beside.j0 k a1 a2 a3 (⟨#[105]⟩ : ByteArray)) = some r := by rw [if_neg (show ¬ (false = true) by decide)] at H; exact H
   clear H
   have H := H1
   clear H1
   have H' := zM H
   clear H
   go_wp2
   go_meet
   case rel => exact ⟨_, ((⟨#[105]⟩ : ByteArray)), (by first | rfl | (simp; done) | (simp [*]; done)), H', ⟨by first | omega | exact Nat.le_refl _⟩, ⟨by repeat (first | (with_reducible first | exact HB.out | apply zL | apply zP | apply zW) | exact HB.out)⟩⟩
 case rest =>
  clear HC5
  try clear c1
  try clear p2
  try clear c6
  obtain ⟨kq, x9_4, rfl, HA, HJ4, HB⟩ := hcut
  cases kq with
  | zero => exact absurd HA.out (by simp [record_Beside.j0])
  | succ kj4 =>
   have H := HA.out
   clear HA
   simp only [record_Beside.j0] at H
   replace H := Option.bind_eq_some_iff.mp H
   obtain ⟨t284, A70, H⟩ := H
   replace H : (if x9_4.size + t284.size ≤ 9223372036854775807 then (if a2 < 0 then (some (x9_4 ++ t284)) else ((order_Num.f (IntKind.u64.wrap (a2))).bind fun t285 => (if (x9_4 ++ t284).size + t285.size ≤ 9223372036854775807 then (if a3 = 0 then (some ((x9_4 ++ t284) ++ t285)) else ((order_Num.f a3).bind fun t286 => (if ((x9_4 ++ t284) ++ t285).size + t286.size ≤ 9223372036854775807 then (some (((x9_4 ++ t284) ++ t285) ++ t286)) else (none)))) else (none)))) else (none)) = some r := H
   have A7 := zM A70
   clear A70
   by_cases c8 : x9_4.size + t284.size ≤ 9223372036854775807
   ·rw [if_pos c8] at H
    have c8b0 := eq_true c8
    have c8b1 : decide (x9_4.size + t284.size ≤ 9223372036854775807) = true := decide_eq_true c8
    try have c8b2 : (9223372036854775807 < x9_4.size + t284.size) = False := eq_false (Nat.not_lt.2 c8)
    by_cases c9 : a2 < 0
    ·rw [if_pos c9] at H
     have c9b0 : decide (a2 < 0) = true := decide_eq_true c9
     clear c9
     obtain rfl := Option.some.inj H
     go_wp2_with (first | ((with_reducible refine gate_callee (f := 35) rfl ?_); refine goesL_ (some 13) rfl rfl Tryd.func35 (by kernel_rfl) rfl #[.int .u64 a1] rfl (by (try simp only [zY, List.map_cons, List.map_nil]); first | done | rfl | (simp only [zV, zX]; rfl)) ?_; (with_reducible refine (order_Num.calls a1 t284 _ A7.out).mono ?_); rintro e w10 ⟨rfl, hb⟩; refine ⟨_, rfl, ?_⟩; have n0_ := zM (below_step (by repeat (first | (with_reducible first | exact HB.out | apply zL | apply zP | apply zW) | exact HB.out)) hb); clear HB; have HB := n0_; clear n0_; (try clear hb); (try clear hb2); (try clear hk); (try clear hi)))
     go_ret
     exact ⟨by first | rfl | (simp [errW_none, errW_some] <;> rfl) | (simp [*, errW_none, errW_some] <;> rfl), by repeat (first | (with_reducible first | exact HB.out | apply zL | apply zP | apply zW) | exact HB.out)⟩
    ·rw [if_neg c9] at H
     have c9b0 : decide (a2 < 0) = false := decide_eq_false c9
     clear c9
     replace H := Option.bind_eq_some_iff.mp H
     obtain ⟨t285, A110, H⟩ := H
     replace H : (if (x9_4 ++ t284).size + t285.size ≤ 9223372036854775807 then (if a3 = 0 then (some ((x9_4 ++ t284) ++ t285)) else ((order_Num.f a3).bind fun t286 => (if ((x9_4 ++ t284) ++ t285).size + t286.size ≤ 9223372036854775807 then (some (((x9_4 ++ t284) ++ t285) ++ t286)) else (none)))) else (none)) = some r := H
     have A11 := zM A110
     clear A110
     by_cases c12 : (x9_4 ++ t284).size + t285.size ≤ 9223372036854775807
     ·rw [if_pos c12] at H
      have c12b0 := eq_true c12
      have c12b1 : decide ((x9_4 ++ t284).size + t285.size ≤ 9223372036854775807) = true := decide_eq_true c12
      try have c12b2 : (9223372036854775807 < (x9_4 ++ t284).size + t285.size) = False := eq_false (Nat.not_lt.2 c12)
      have c12q := c12
      simp only [ByteArray.size_append] at c12q
      have c12b9 := eq_false (Nat.not_lt.2 c12q)
      clear c12q
      by_cases c13 : a3 = 0
      ·rw [if_pos c13] at H
       have c13b0 : (a3 == 0) = true := beq_iff_eq.mpr c13
       have c13b1 : (a3 != 0) = false := bne_eq_false_iff_eq.mpr c13
       clear c13
       obtain rfl := Option.some.inj H
       go_wp2_with (first | ((with_reducible refine gate_callee (f := 35) rfl ?_); refine goesL_ (some 13) rfl rfl Tryd.func35 (by kernel_rfl) rfl #[.int .u64 a1] rfl (by (try simp only [zY, List.map_cons, List.map_nil]); first | done | rfl | (simp only [zV, zX]; rfl)) ?_; (with_reducible refine (order_Num.calls a1 t284 _ A7.out).mono ?_); rintro e w14 ⟨rfl, hb⟩; refine ⟨_, rfl, ?_⟩; have n0_ := zM (below_step (by repeat (first | (with_reducible first | exact HB.out | apply zL | apply zP | apply zW) | exact HB.out)) hb); clear HB; have HB := n0_; clear n0_; (try clear hb); (try clear hb2); (try clear hk); (try clear hi)) | ((with_reducible refine gate_callee (f := 35) rfl ?_); refine goesL_ (some 21) rfl rfl Tryd.func35 (by kernel_rfl) rfl #[.int .u64 (IntKind.u64.wrap (a2))] rfl (by (try simp only [zY, List.map_cons, List.map_nil]); first | done | rfl | (simp only [zV, zX]; rfl)) ?_; (with_reducible refine (order_Num.calls (IntKind.u64.wrap (a2)) t285 _ A11.out).mono ?_); rintro e w15 ⟨rfl, hb⟩; refine ⟨_, rfl, ?_⟩; have n0_ := zM (below_step (by repeat (first | (with_reducible first | exact HB.out | apply zL | apply zP | apply zW) | exact HB.out)) hb); clear HB; have HB := n0_; clear n0_; (try clear hb); (try clear hb2); (try clear hk); (try clear hi)))
       go_ret
       exact ⟨by first | rfl | (simp [errW_none, errW_some] <;> rfl) | (simp [*, errW_none, errW_some] <;> rfl), by repeat (first | (with_reducible first | exact HB.out | apply zL | apply zP | apply zW) | exact HB.out)⟩
      ·rw [if_neg c13] at H
       have c13b0 : (a3 == 0) = false := beq_eq_false_iff_ne.mpr c13
       have c13b1 : (a3 != 0) = true := bne_iff_ne.mpr c13
       replace H := Option.bind_eq_some_iff.mp H
       obtain ⟨t286, A160, H⟩ := H
       replace H : (if ((x9_4 ++ t284) ++ t285).size + t286.size ≤ 9223372036854775807 then (some (((x9_4 ++ t284) ++ t285) ++ t286)) else (none)) = some r := H
       have A16 := zM A160
       clear A160
       by_cases c17 : ((x9_4 ++ t284) ++ t285).size + t286.size ≤ 9223372036854775807
       ·rw [if_pos c17] at H
        have c17b0 := eq_true c17
        have c17b1 : decide (((x9_4 ++ t284) ++ t285).size + t286.size ≤ 9223372036854775807) = true := decide_eq_true c17
        try have c17b2 : (9223372036854775807 < ((x9_4 ++ t284) ++ t285).size + t286.size) = False := eq_false (Nat.not_lt.2 c17)
        have c17q := c17
        simp only [ByteArray.size_append] at c17q
        have c17b9 := eq_false (Nat.not_lt.2 c17q)
        clear c17q
        obtain rfl := Option.some.inj H
        go_wp2_with (first | ((with_reducible refine gate_callee (f := 35) rfl ?_); refine goesL_ (some 13) rfl rfl Tryd.func35 (by kernel_rfl) rfl #[.int .u64 a1] rfl (by (try simp only [zY, List.map_cons, List.map_nil]); first | done | rfl | (simp only [zV, zX]; rfl)) ?_; (with_reducible refine (order_Num.calls a1 t284 _ A7.out).mono ?_); rintro e w18 ⟨rfl, hb⟩; refine ⟨_, rfl, ?_⟩; have n0_ := zM (below_step (by repeat (first | (with_reducible first | exact HB.out | apply zL | apply zP | apply zW) | exact HB.out)) hb); clear HB; have HB := n0_; clear n0_; (try clear hb); (try clear hb2); (try clear hk); (try clear hi)) | ((with_reducible refine gate_callee (f := 35) rfl ?_); refine goesL_ (some 21) rfl rfl Tryd.func35 (by kernel_rfl) rfl #[.int .u64 (IntKind.u64.wrap (a2))] rfl (by (try simp only [zY, List.map_cons, List.map_nil]); first | done | rfl | (simp only [zV, zX]; rfl)) ?_; (with_reducible refine (order_Num.calls (IntKind.u64.wrap (a2)) t285 _ A11.out).mono ?_); rintro e w19 ⟨rfl, hb⟩; refine ⟨_, rfl, ?_⟩; have n0_ := zM (below_step (by repeat (first | (with_reducible first | exact HB.out | apply zL | apply zP | apply zW) | exact HB.out)) hb); clear HB; have HB := n0_; clear n0_; (try clear hb); (try clear hb2); (try clear hk); (try clear hi)) | ((with_reducible refine gate_callee (f := 35) rfl ?_); refine goesL_ (some 28) rfl rfl Tryd.func35 (by kernel_rfl) rfl #[.int .u64 a3] rfl (by (try simp only [zY, List.map_cons, List.map_nil]); first | done | rfl | (simp only [zV, zX]; rfl)) ?_; (with_reducible refine (order_Num.calls a3 t286 _ A16.out).mono ?_); rintro e w20 ⟨rfl, hb⟩; refine ⟨_, rfl, ?_⟩; have n0_ := zM (below_step (by repeat (first | (with_reducible first | exact HB.out | apply zL | apply zP | apply zW) | exact HB.out)) hb); clear HB; have HB := n0_; clear n0_; (try clear hb); (try clear hb2); (try clear hk); (try clear hi)))
        go_ret
        exact ⟨by first | rfl | (simp [errW_none, errW_some] <;> rfl) | (simp [*, errW_none, errW_some] <;> rfl), by repeat (first | (with_reducible first | exact HB.out | apply zL | apply zP | apply zW) | exact HB.out)⟩
       ·rw [if_neg c17] at H
        exact absurd H (by simp)
     ·rw [if_neg c12] at H
      exact absurd H (by simp)
   ·rw [if_neg c8] at H
    exact absurd H (by simp)

-- NOT PRINTED: function 4 (lodestonelaw26_RecordKeys)

end Go.Proofs.YtgghakjleihgaaaDoor.PRecordKeys
