import Derived.Test.YtgbhjkkfleeodaaDoorPBlockPutsx0
import Derived.Test.YtgbhjkkfleeodaaDoorPBlockPutsx1
import Derived.Test.YtgbhjkkfleeodaaDoorPBlockPutsx6
import Derived.Test.YtgbhjkkfleeodaaDoorXB
import Derived.Test.YtgbhjkkfleeodaaDoorXB
namespace Go.Proofs.YtgbhjkkfleeodaaDoor.PBlockPuts
open Go.RowKit Go.Proofs.YtgbhjkkfleeodaaDoorW.PrintWords Go.Proofs.YtgbhjkkfleeodaaDoorW.PrintLast Go.Proofs.YtgbhjkkfleeodaaDoorW.PrintMore
open Go.Proofs.YtgbhjkkfleeodaaDoorW.PrintWords renaming blk_drewN → zN, blk_drew → zD, blk_alloc → zA, blk_cell → zC, blk_frozen → zF, below_set → zS, below_alloc → zL, below_drew1 → zW, pw_below_drewN → zP, blk_below → zB, keep_drewN → zK
open Go.Proofs.YtgbhjkkfleeodaaDoorW.PrintWords.Aside0 renaming mk → zM
open List renaming setIfInBounds_toArray → zT, set_cons_zero → zZ, set_cons_succ → zU, length_drop → zV, length_take → zX, map_toArray → zY
attribute [local go_sem] max2_int min2_int max_two min_two max_three min_three max_four min_four
set_option linter.unusedVariables false
set_option linter.unusedSimpArgs false
abbrev zb1_0 : Array Bool := #[false, false, false, false, false, false, false, false, false, false, false]
abbrev zb1_1 : Array Bool := #[true, false, false, false, false, false, false, false, false, false, false]
abbrev zb1_2 : Array Bool := #[true, false, true, false, false, false, false, false, false, false, false]
abbrev zb1_3 : Array Bool := #[true, false, true, false, false, true, false, false, false, false, false]
abbrev zb1_4 : Array Bool := #[true, false, true, false, false, true, false, true, false, false, false]
abbrev zb1_5 : Array Bool := #[true, true, true, false, false, true, false, true, false, false, false]
abbrev zb1_6 : Array Bool := #[true, true, true, true, false, true, false, true, false, false, false]
abbrev zb1_7 : Array Bool := #[true, true, true, true, true, true, false, true, false, false, false]
abbrev zb1_8 : Array Bool := #[true, true, true, true, true, true, true, true, false, false, false]
abbrev zb1_9 : Array Bool := #[true, true, true, true, true, true, true, true, true, false, false]
abbrev zb1_10 : Array Bool := #[true, true, true, true, true, true, true, true, true, true, false]
abbrev zb1_11 : Array Bool := #[true, true, true, true, true, true, true, true, true, true, true]
abbrev zb1_12 : Array Bool := #[false, false, false, false, false, false, false, false, false, false, false, false]
abbrev zb1_13 : Array Bool := #[true, false, false, false, false, false, false, false, false, false, false, false]
abbrev zb1_14 : Array Bool := #[true, true, false, false, false, false, false, false, false, false, false, false]
abbrev zb1_15 : Array Bool := #[true, true, true, false, false, false, false, false, false, false, false, false]
abbrev zb1_16 : Array Bool := #[true, true, true, true, false, false, false, false, false, false, false, false]
abbrev zb1_17 : Array Bool := #[true, true, true, true, false, true, false, false, false, false, false, false]
abbrev zb1_18 : Array Bool := #[true, true, true, true, false, true, true, false, false, false, false, false]
abbrev zb1_19 : Array Bool := #[true, true, true, true, false, true, true, false, false, true, false, false]
abbrev zb1_20 : Array Bool := #[true, true, true, true, false, true, true, false, false, true, true, false]
abbrev zb1_21 : Array Bool := #[true, true, true, true, true, true, true, false, false, true, true, false]
abbrev zb1_22 : Array Bool := #[true, true, true, true, true, true, true, true, false, true, true, false]
abbrev zb1_23 : Array Bool := #[true, true, true, true, true, true, true, true, true, true, true, false]
abbrev zb1_24 : Array Bool := #[true, true, true, true, true, true, true, true, true, true, true, true]
abbrev zb1_25 : Array Bool := #[false, false, false, false, false, false, false, false, false]
abbrev zb1_26 : Array Bool := #[true, false, false, false, false, false, false, false, false]
abbrev zb1_27 : Array Bool := #[true, false, false, false, true, false, false, false, false]
abbrev zb1_28 : Array Bool := #[true, true, false, false, true, false, false, false, false]
abbrev zb1_29 : Array Bool := #[true, true, true, false, true, false, false, false, false]
set_option linter.unnecessarySimpa false
def lodestoneref04_R_Fail.f (a0_0 : ByteArray) (a0_1 : Int) (a1 : Int) : Option (ByteArray × Int) := if a0_1 = 0 then (if a1 = 0 then (some (a0_0, a0_1)) else (some ((⟨#[]⟩ : ByteArray), a1))) else (some (a0_0, a0_1))
set_option maxHeartbeats 8000000 in
set_option maxRecDepth 100000 in
theorem lodestoneref04_R_Fail.calls (a0_0 : ByteArray) (a0_1 : Int) (a1 : Int) (r1 : ByteArray) (r2 : Int) (w : World) (h : lodestoneref04_R_Fail.f a0_0 a0_1 a1 = some (r1, r2)) :
  Calls Tryd.prog 69 #[.agg #[.string a0_0, .int .i64 a0_1], .int .i64 a1] w fun e w' => e = .returned (.agg #[.string r1, .int .i64 r2]) ∧ Below w.heap.size w w' := by
 have hu62 := Tryd.underlying62
 have HB := zM (Below.refl w.heap.size w)
 have H : (if a0_1 = 0 then (if a1 = 0 then (some (a0_0, a0_1)) else (some ((⟨#[]⟩ : ByteArray), a1))) else (some (a0_0, a0_1))) = some (r1, r2) := h
 clear h
 by_cases c3 : a0_1 = 0
 ·rw [if_pos c3] at H
  have c3b0 : (a0_1 == 0) = true := beq_iff_eq.mpr c3
  have c3b1 : (a0_1 != 0) = false := bne_eq_false_iff_eq.mpr c3
  clear c3
  by_cases c4 : a1 = 0
  ·rw [if_pos c4] at H
   have c4b0 : (a1 == 0) = true := beq_iff_eq.mpr c4
   have c4b1 : (a1 != 0) = false := bne_eq_false_iff_eq.mpr c4
   clear c4
   simp only [Option.some.injEq, Prod.mk.injEq] at H
   obtain ⟨rfl, rfl⟩ := H
   go_enter Tryd.func69, Tryd.ntmps69
   go_wp2_with (first | ((with_reducible refine gate_dst (N := 2) rfl ?_); refine box_event ?hg (N := 2) ?hd (cs := #[.string a0_0, .int .i64 a0_1]) (t := 62) ?hr ?_; (case hd => rfl); (case hg => rfl); (case hr => first | (go_simp; done) | (go_simp; rfl)); intro gb192 hg w5 hbox hb; have n0_ := zM (below_step (by repeat (first | (with_reducible first | exact HB.out | apply zL | apply zP | apply zW) | exact HB.out)) hb); have n1_ := zM (hbox); have n2_ := zM ((by rw [hg]; exact (below_size (by repeat (first | (with_reducible first | exact HB.out | apply zL | apply zP | apply zW) | exact HB.out))) : w.heap.size ≤ gb192)); have n3_ := zM ((by rw [hg]; exact (below_size (by repeat (first | (with_reducible first | exact HB.out | apply zL | apply zP | apply zW) | exact HB.out))) : w.heap.size ≤ gb192)); clear HB; have HB := n0_; have BK192 := n1_; have GW192 := n2_; have GE192 := n3_; clear n0_ n1_ n2_ n3_; clear hb hbox hg) | ((with_reducible refine gate_dst (N := 4) rfl ?_); refine box_event ?hg (N := 4) ?hd (cs := #[.string (⟨#[]⟩ : ByteArray), .int .i64 0]) (t := 62) ?hr ?_; (case hd => rfl); (case hg => rfl); (case hr => first | (go_simp; done) | (go_simp; rfl)); intro gb193 hg w6 hbox hb; have n0_ := zM (zB (g := gb192) (o := .cells #[.string a0_0, .int .i64 a0_1] 62 (0, 0)) (by (with_reducible repeat (first | refine zN ?_ _ | refine zD ?_ | refine zA ?_ _)); exact BK192.out) hb); have n1_ := zM (below_step (by repeat (first | (with_reducible first | exact HB.out | apply zL | apply zP | apply zW | refine zS ?_ GE192.out) | exact HB.out)) hb); have n2_ := zM (hbox); have n3_ := zM ((by rw [hg]; exact (below_size (by repeat (first | (with_reducible first | exact HB.out | apply zL | apply zP | apply zW | refine zS ?_ GE192.out) | exact HB.out))) : w.heap.size ≤ gb193)); have n4_ := zM ((by rw [hg]; exact (below_size (by repeat (first | (with_reducible first | exact HB.out | apply zL | apply zP | apply zW | refine zS ?_ GE192.out) | exact HB.out))) : w.heap.size ≤ gb193)); have n5_ := zM ((by rw [hg]; exact Nat.ne_of_lt (blk_lt (g := gb192) (o := .cells #[.string a0_0, .int .i64 a0_1] 62 (0, 0)) (by (with_reducible repeat (first | refine zN ?_ _ | refine zD ?_ | refine zA ?_ _)); exact BK192.out)) : gb192 ≠ gb193)); have n6_ := zM ((by rw [hg]; exact Nat.ne_of_gt (blk_lt (g := gb192) (o := .cells #[.string a0_0, .int .i64 a0_1] 62 (0, 0)) (by (with_reducible repeat (first | refine zN ?_ _ | refine zD ?_ | refine zA ?_ _)); exact BK192.out)) : gb193 ≠ gb192)); clear BK192; clear HB; have BK192 := n0_; have HB := n1_; have BK193 := n2_; have GW193 := n3_; have GE193 := n4_; have NB192_193 := n5_; have NB193_192 := n6_; clear n0_ n1_ n2_ n3_ n4_ n5_ n6_; clear hb hbox hg; have hnb7 := NB192_193.out; have hnc7 := NB193_192.out; have hcz8_0 : w6.cell? ⟨gb192, 0, none⟩ = some (.string a0_0) := (zC BK192.out 0).trans rfl; have hcz8_1 : w6.cell? ⟨gb192, 1, none⟩ = some (.int .i64 a0_1) := (zC BK192.out 1).trans rfl; have hfz8_0 := zF BK192.out 0; have hfz8_1 := zF BK192.out 1; have hcz9_0 : w6.cell? ⟨gb193, 0, none⟩ = some (.string (⟨#[]⟩ : ByteArray)) := (zC BK193.out 0).trans rfl; have hcz9_1 : w6.cell? ⟨gb193, 1, none⟩ = some (.int .i64 0) := (zC BK193.out 1).trans rfl; have hfz9_0 := zF BK193.out 0; have hfz9_1 := zF BK193.out 1))
   refine bodyPost_ret (results_cell_row rfl _ _ gb193 62 #[.string a0_0, .int .i64 a0_1] (0, 0) _ rfl (by (with_reducible repeat (first | refine zN ?_ _ | refine zD ?_ | refine zA ?_ _)); refine blk_put (cs := #[.string a0_0, .int .i64 0]) ?_ 1 _ rfl; (with_reducible repeat (first | refine zN ?_ _ | refine zD ?_ | refine zA ?_ _)); refine blk_put (cs := #[.string (⟨#[]⟩ : ByteArray), .int .i64 0]) ?_ 0 _ rfl; (with_reducible repeat (first | refine zN ?_ _ | refine zD ?_ | refine zA ?_ _)); exact BK193.out) Tryd.underlying62 rfl (by kernel_rfl)) rfl ?_
   exact ⟨by first | rfl | (simp [errW_none, errW_some] <;> rfl) | (simp [*, errW_none, errW_some] <;> rfl), by repeat (first | (with_reducible first | exact HB.out | apply zL | apply zP | apply zW | refine zS ?_ GE192.out | refine zS ?_ GE193.out) | exact HB.out)⟩
  ·rw [if_neg c4] at H
   have c4b0 : (a1 == 0) = false := beq_eq_false_iff_ne.mpr c4
   have c4b1 : (a1 != 0) = true := bne_iff_ne.mpr c4
   simp only [Option.some.injEq, Prod.mk.injEq] at H
   obtain ⟨rfl, rfl⟩ := H
   go_enter Tryd.func69, Tryd.ntmps69
   go_wp2_with (first | ((with_reducible refine gate_dst (N := 2) rfl ?_); refine box_event ?hg (N := 2) ?hd (cs := #[.string a0_0, .int .i64 a0_1]) (t := 62) ?hr ?_; (case hd => rfl); (case hg => rfl); (case hr => first | (go_simp; done) | (go_simp; rfl)); intro gb192 hg w10 hbox hb; have n0_ := zM (below_step (by repeat (first | (with_reducible first | exact HB.out | apply zL | apply zP | apply zW) | exact HB.out)) hb); have n1_ := zM (hbox); have n2_ := zM ((by rw [hg]; exact (below_size (by repeat (first | (with_reducible first | exact HB.out | apply zL | apply zP | apply zW) | exact HB.out))) : w.heap.size ≤ gb192)); have n3_ := zM ((by rw [hg]; exact (below_size (by repeat (first | (with_reducible first | exact HB.out | apply zL | apply zP | apply zW) | exact HB.out))) : w.heap.size ≤ gb192)); clear HB; have HB := n0_; have BK192 := n1_; have GW192 := n2_; have GE192 := n3_; clear n0_ n1_ n2_ n3_; clear hb hbox hg) | ((with_reducible refine gate_dst (N := 4) rfl ?_); refine box_event ?hg (N := 4) ?hd (cs := #[.string (⟨#[]⟩ : ByteArray), .int .i64 0]) (t := 62) ?hr ?_; (case hd => rfl); (case hg => rfl); (case hr => first | (go_simp; done) | (go_simp; rfl)); intro gb193 hg w11 hbox hb; have n0_ := zM (zB (g := gb192) (o := .cells #[.string a0_0, .int .i64 a0_1] 62 (0, 0)) (by (with_reducible repeat (first | refine zN ?_ _ | refine zD ?_ | refine zA ?_ _)); exact BK192.out) hb); have n1_ := zM (below_step (by repeat (first | (with_reducible first | exact HB.out | apply zL | apply zP | apply zW | refine zS ?_ GE192.out) | exact HB.out)) hb); have n2_ := zM (hbox); have n3_ := zM ((by rw [hg]; exact (below_size (by repeat (first | (with_reducible first | exact HB.out | apply zL | apply zP | apply zW | refine zS ?_ GE192.out) | exact HB.out))) : w.heap.size ≤ gb193)); have n4_ := zM ((by rw [hg]; exact (below_size (by repeat (first | (with_reducible first | exact HB.out | apply zL | apply zP | apply zW | refine zS ?_ GE192.out) | exact HB.out))) : w.heap.size ≤ gb193)); have n5_ := zM ((by rw [hg]; exact Nat.ne_of_lt (blk_lt (g := gb192) (o := .cells #[.string a0_0, .int .i64 a0_1] 62 (0, 0)) (by (with_reducible repeat (first | refine zN ?_ _ | refine zD ?_ | refine zA ?_ _)); exact BK192.out)) : gb192 ≠ gb193)); have n6_ := zM ((by rw [hg]; exact Nat.ne_of_gt (blk_lt (g := gb192) (o := .cells #[.string a0_0, .int .i64 a0_1] 62 (0, 0)) (by (with_reducible repeat (first | refine zN ?_ _ | refine zD ?_ | refine zA ?_ _)); exact BK192.out)) : gb193 ≠ gb192)); clear BK192; clear HB; have BK192 := n0_; have HB := n1_; have BK193 := n2_; have GW193 := n3_; have GE193 := n4_; have NB192_193 := n5_; have NB193_192 := n6_; clear n0_ n1_ n2_ n3_ n4_ n5_ n6_; clear hb hbox hg; have hnb12 := NB192_193.out; have hnc12 := NB193_192.out; have hcz13_0 : w11.cell? ⟨gb192, 0, none⟩ = some (.string a0_0) := (zC BK192.out 0).trans rfl; have hcz13_1 : w11.cell? ⟨gb192, 1, none⟩ = some (.int .i64 a0_1) := (zC BK192.out 1).trans rfl; have hfz13_0 := zF BK192.out 0; have hfz13_1 := zF BK192.out 1; have hcz14_0 : w11.cell? ⟨gb193, 0, none⟩ = some (.string (⟨#[]⟩ : ByteArray)) := (zC BK193.out 0).trans rfl; have hcz14_1 : w11.cell? ⟨gb193, 1, none⟩ = some (.int .i64 0) := (zC BK193.out 1).trans rfl; have hfz14_0 := zF BK193.out 0; have hfz14_1 := zF BK193.out 1))
   refine bodyPost_ret (results_cell_row rfl _ _ gb193 62 #[.string (⟨#[]⟩ : ByteArray), .int .i64 a1] (0, 0) _ rfl (by (with_reducible repeat (first | refine zN ?_ _ | refine zD ?_ | refine zA ?_ _)); refine blk_put (cs := #[.string (⟨#[]⟩ : ByteArray), .int .i64 0]) ?_ 1 _ rfl; (with_reducible repeat (first | refine zN ?_ _ | refine zD ?_ | refine zA ?_ _)); refine blk_put (cs := #[.string (⟨#[]⟩ : ByteArray), .int .i64 0]) ?_ 0 _ rfl; (with_reducible repeat (first | refine zN ?_ _ | refine zD ?_ | refine zA ?_ _)); exact BK193.out) Tryd.underlying62 rfl (by kernel_rfl)) rfl ?_
   exact ⟨by first | rfl | (simp [errW_none, errW_some] <;> rfl) | (simp [*, errW_none, errW_some] <;> rfl), by repeat (first | (with_reducible first | exact HB.out | apply zL | apply zP | apply zW | refine zS ?_ GE192.out | refine zS ?_ GE193.out) | exact HB.out)⟩
 ·rw [if_neg c3] at H
  have c3b0 : (a0_1 == 0) = false := beq_eq_false_iff_ne.mpr c3
  have c3b1 : (a0_1 != 0) = true := bne_iff_ne.mpr c3
  simp only [Option.some.injEq, Prod.mk.injEq] at H
  obtain ⟨rfl, rfl⟩ := H
  go_enter Tryd.func69, Tryd.ntmps69
  go_wp2_with (first | ((with_reducible refine gate_dst (N := 2) rfl ?_); refine box_event ?hg (N := 2) ?hd (cs := #[.string a0_0, .int .i64 a0_1]) (t := 62) ?hr ?_; (case hd => rfl); (case hg => rfl); (case hr => first | (go_simp; done) | (go_simp; rfl)); intro gb192 hg w15 hbox hb; have n0_ := zM (below_step (by repeat (first | (with_reducible first | exact HB.out | apply zL | apply zP | apply zW) | exact HB.out)) hb); have n1_ := zM (hbox); have n2_ := zM ((by rw [hg]; exact (below_size (by repeat (first | (with_reducible first | exact HB.out | apply zL | apply zP | apply zW) | exact HB.out))) : w.heap.size ≤ gb192)); have n3_ := zM ((by rw [hg]; exact (below_size (by repeat (first | (with_reducible first | exact HB.out | apply zL | apply zP | apply zW) | exact HB.out))) : w.heap.size ≤ gb192)); clear HB; have HB := n0_; have BK192 := n1_; have GW192 := n2_; have GE192 := n3_; clear n0_ n1_ n2_ n3_; clear hb hbox hg) | ((with_reducible refine gate_dst (N := 4) rfl ?_); refine box_event ?hg (N := 4) ?hd (cs := #[.string (⟨#[]⟩ : ByteArray), .int .i64 0]) (t := 62) ?hr ?_; (case hd => rfl); (case hg => rfl); (case hr => first | (go_simp; done) | (go_simp; rfl)); intro gb193 hg w16 hbox hb; have n0_ := zM (zB (g := gb192) (o := .cells #[.string a0_0, .int .i64 a0_1] 62 (0, 0)) (by (with_reducible repeat (first | refine zN ?_ _ | refine zD ?_ | refine zA ?_ _)); exact BK192.out) hb); have n1_ := zM (below_step (by repeat (first | (with_reducible first | exact HB.out | apply zL | apply zP | apply zW | refine zS ?_ GE192.out) | exact HB.out)) hb); have n2_ := zM (hbox); have n3_ := zM ((by rw [hg]; exact (below_size (by repeat (first | (with_reducible first | exact HB.out | apply zL | apply zP | apply zW | refine zS ?_ GE192.out) | exact HB.out))) : w.heap.size ≤ gb193)); have n4_ := zM ((by rw [hg]; exact (below_size (by repeat (first | (with_reducible first | exact HB.out | apply zL | apply zP | apply zW | refine zS ?_ GE192.out) | exact HB.out))) : w.heap.size ≤ gb193)); have n5_ := zM ((by rw [hg]; exact Nat.ne_of_lt (blk_lt (g := gb192) (o := .cells #[.string a0_0, .int .i64 a0_1] 62 (0, 0)) (by (with_reducible repeat (first | refine zN ?_ _ | refine zD ?_ | refine zA ?_ _)); exact BK192.out)) : gb192 ≠ gb193)); have n6_ := zM ((by rw [hg]; exact Nat.ne_of_gt (blk_lt (g := gb192) (o := .cells #[.string a0_0, .int .i64 a0_1] 62 (0, 0)) (by (with_reducible repeat (first | refine zN ?_ _ | refine zD ?_ | refine zA ?_ _)); exact BK192.out)) : gb193 ≠ gb192)); clear BK192; clear HB; have BK192 := n0_; have HB := n1_; have BK193 := n2_; have GW193 := n3_; have GE193 := n4_; have NB192_193 := n5_; have NB193_192 := n6_; clear n0_ n1_ n2_ n3_ n4_ n5_ n6_; clear hb hbox hg; have hnb17 := NB192_193.out; have hnc17 := NB193_192.out; have hcz18_0 : w16.cell? ⟨gb192, 0, none⟩ = some (.string a0_0) := (zC BK192.out 0).trans rfl; have hcz18_1 : w16.cell? ⟨gb192, 1, none⟩ = some (.int .i64 a0_1) := (zC BK192.out 1).trans rfl; have hfz18_0 := zF BK192.out 0; have hfz18_1 := zF BK192.out 1; have hcz19_0 : w16.cell? ⟨gb193, 0, none⟩ = some (.string (⟨#[]⟩ : ByteArray)) := (zC BK193.out 0).trans rfl; have hcz19_1 : w16.cell? ⟨gb193, 1, none⟩ = some (.int .i64 0) := (zC BK193.out 1).trans rfl; have hfz19_0 := zF BK193.out 0; have hfz19_1 := zF BK193.out 1))
  refine bodyPost_ret (results_cell_row rfl _ _ gb193 62 #[.string a0_0, .int .i64 a0_1] (0, 0) _ rfl (by (with_reducible repeat (first | refine zN ?_ _ | refine zD ?_ | refine zA ?_ _)); refine blk_put (cs := #[.string a0_0, .int .i64 0]) ?_ 1 _ rfl; (with_reducible repeat (first | refine zN ?_ _ | refine zD ?_ | refine zA ?_ _)); refine blk_put (cs := #[.string (⟨#[]⟩ : ByteArray), .int .i64 0]) ?_ 0 _ rfl; (with_reducible repeat (first | refine zN ?_ _ | refine zD ?_ | refine zA ?_ _)); exact BK193.out) Tryd.underlying62 rfl (by kernel_rfl)) rfl ?_
  exact ⟨by first | rfl | (simp [errW_none, errW_some] <;> rfl) | (simp [*, errW_none, errW_some] <;> rfl), by repeat (first | (with_reducible first | exact HB.out | apply zL | apply zP | apply zW | refine zS ?_ GE192.out | refine zS ?_ GE193.out) | exact HB.out)⟩
def lodestoneref04_R_Bytes.j0 : Nat → Int → Bool → ByteArray → Int → Option (ByteArray × Int × ByteArray)
 | 0, _, _, _, _ => none
 | k + 1, x1, x14, x195000, x195001 => if x14 = true then ((lodestoneref04_R_Fail.f x195000 x195001 2).bind fun bt196 => (some (bt196.1, bt196.2, (⟨#[]⟩ : ByteArray)))) else (if x195001 = 0 then (if 0 ≤ x1 then (if x1 ≤ (x195000.size : Int) then (some (x195000.extract (x1 : Int).toNat x195000.size, 0, x195000.extract 0 (x1 : Int).toNat)) else (none)) else (none)) else (some (x195000, x195001, (⟨#[]⟩ : ByteArray))))
def lodestoneref04_R_Bytes.f (k : Nat) (a0_0 : ByteArray) (a0_1 : Int) (a1 : Int) : Option (ByteArray × Int × ByteArray) := if a1 < 0 then (lodestoneref04_R_Bytes.j0 k a1 true a0_0 a0_1) else (lodestoneref04_R_Bytes.j0 k a1 (decide (a1 > (a0_0.size : Int))) a0_0 a0_1)
theorem lodestoneref04_R_Bytes.mono_l : ∀ k, (∀ y0 y1 y2 y3, LeO (lodestoneref04_R_Bytes.j0 k y0 y1 y2 y3) (lodestoneref04_R_Bytes.j0 (k + 1) y0 y1 y2 y3))
 | 0 => fun _ _ _ _ r h => by simp [lodestoneref04_R_Bytes.j0] at h
 | k + 1 => by
  have ih0 := lodestoneref04_R_Bytes.mono_l k
  ·intro y0 y1 y2 y3
   unfold lodestoneref04_R_Bytes.j0
   repeat' first
   | (with_reducible exact ih0 _ _ _ _)
   | (with_reducible exact LeO.refl _)
   | (with_reducible exact LeO.none _)
   | (with_reducible refine LeO.ite ?_ ?_)
   | (with_reducible refine LeO.bind ?_ (fun _ => ?_))
   | exact ih0 _ _ _ _
   | exact LeO.none _
   | refine LeO.ite ?_ ?_
   | refine LeO.bind ?_ (fun _ => ?_)
theorem lodestoneref04_R_Bytes.mono : ∀ a0 a1 a2 k, LeO (lodestoneref04_R_Bytes.f k a0 a1 a2) (lodestoneref04_R_Bytes.f (k + 1) a0 a1 a2) := by
 intro a0 a1 a2 k
 have ih0 := lodestoneref04_R_Bytes.mono_l k
 unfold lodestoneref04_R_Bytes.f
 repeat' first
   | (with_reducible exact ih0 _ _ _ _)
   | (with_reducible exact LeO.refl _)
   | (with_reducible exact LeO.none _)
   | (with_reducible refine LeO.ite ?_ ?_)
   | (with_reducible refine LeO.bind ?_ (fun _ => ?_))
   | exact ih0 _ _ _ _
   | exact LeO.none _
   | refine LeO.ite ?_ ?_
   | refine LeO.bind ?_ (fun _ => ?_)
def lodestoneref04_R_Bytes.T5 : Bool × List (List Nat × List Nat) := (true, [([], []), ([0], [0]), ([], []), ([1, 2], [1, 2]), ([3], [3]), ([], []), ([5], [5]), ([], []), ([6, 7], [6, 7]), ([4, 0, 1, 2, 3, 4], [4]), ([8, 9, 0, 1, 2, 3, 4, 5, 6, 7, 8, 9], [8])])
def lodestoneref04_R_Bytes.B5 : List Nat := [0, 1, 0, 7, 15, 0, 32, 0, 224, 31, 1023]
theorem lodestoneref04_R_Bytes.tab5 : rtab .any (opsOf Tryd.f54 5) = lodestoneref04_R_Bytes.T5 := by kernel_rfl
theorem lodestoneref04_R_Bytes.bits5 : waitsOk lodestoneref04_R_Bytes.T5.2 lodestoneref04_R_Bytes.B5 = true := by kernel_rfl
set_option maxHeartbeats 8000000 in
set_option maxRecDepth 100000 in
theorem lodestoneref04_R_Bytes.calls (k : Nat) (a0_0 : ByteArray) (a0_1 : Int) (a1 : Int) (r1 : ByteArray) (r2 : Int) (r3 : ByteArray) (w : World) (h : lodestoneref04_R_Bytes.f k a0_0 a0_1 a1 = some (r1, r2, r3)) :
  Calls Tryd.prog 54 #[.agg #[.string a0_0, .int .i64 a0_1], .int .i64 a1] w fun e w' => e = .returned (.tuple #[.agg #[.string r1, .int .i64 r2], .string r3]) ∧ Below w.heap.size w w' := by
 have hu62 := Tryd.underlying62
 have HB := zM (Below.refl w.heap.size w)
 have H : (if a1 < 0 then (lodestoneref04_R_Bytes.j0 k a1 true a0_0 a0_1) else (lodestoneref04_R_Bytes.j0 k a1 (decide (a1 > (a0_0.size : Int))) a0_0 a0_1)) = some (r1, r2, r3) := h
 clear h
 have HC3 := zM H
 clear H
 go_enter Tryd.func54, Tryd.ntmps54
 go_upto_region 1 with (first | ((with_reducible refine gate_dst (N := 2) rfl ?_); (try (refine gate_guard (by rfl) ?_; dsimp only)); refine box_event ?hg (N := 2) ?hd (cs := #[.string a0_0, .int .i64 a0_1]) (t := 62) ?hr ?_; (case hd => rfl); (case hg => rfl); (case hr => first | (go_simp; done) | (go_simp; rfl)); intro gb194 hg w4 hbox hb; have n0_ := zM (below_step (by repeat (first | (with_reducible first | exact HB.out | apply zL | apply zP | apply zW) | exact HB.out)) hb); have n1_ := zM (hbox); have n2_ := zM ((by rw [hg]; exact (below_size (by repeat (first | (with_reducible first | exact HB.out | apply zL | apply zP | apply zW) | exact HB.out))) : w.heap.size ≤ gb194)); have n3_ := zM ((by rw [hg]; exact (below_size (by repeat (first | (with_reducible first | exact HB.out | apply zL | apply zP | apply zW) | exact HB.out))) : w.heap.size ≤ gb194)); clear HB; have HB := n0_; have BK194 := n1_; have GW194 := n2_; have GE194 := n3_; clear n0_ n1_ n2_ n3_; clear hb hbox hg) | ((with_reducible refine gate_dst (N := 4) rfl ?_); (try (refine gate_guard (by rfl) ?_; dsimp only)); refine box_event ?hg (N := 4) ?hd (cs := #[.string (⟨#[]⟩ : ByteArray), .int .i64 0]) (t := 62) ?hr ?_; (case hd => rfl); (case hg => rfl); (case hr => first | (go_simp; done) | (go_simp; rfl)); intro gb195 hg w5 hbox hb; have n0_ := zM (zB (g := gb194) (o := .cells #[.string a0_0, .int .i64 a0_1] 62 (0, 0)) (by (with_reducible repeat (first | refine zN ?_ _ | refine zD ?_ | refine zA ?_ _)); exact BK194.out) hb); have n1_ := zM (below_step (by repeat (first | (with_reducible first | exact HB.out | apply zL | apply zP | apply zW | refine zS ?_ GE194.out) | exact HB.out)) hb); have n2_ := zM (hbox); have n3_ := zM ((by rw [hg]; exact (below_size (by repeat (first | (with_reducible first | exact HB.out | apply zL | apply zP | apply zW | refine zS ?_ GE194.out) | exact HB.out))) : w.heap.size ≤ gb195)); have n4_ := zM ((by rw [hg]; exact (below_size (by repeat (first | (with_reducible first | exact HB.out | apply zL | apply zP | apply zW | refine zS ?_ GE194.out) | exact HB.out))) : w.heap.size ≤ gb195)); have n5_ := zM ((by rw [hg]; exact Nat.ne_of_lt (blk_lt (g := gb194) (o := .cells #[.string a0_0, .int .i64 a0_1] 62 (0, 0)) (by (with_reducible repeat (first | refine zN ?_ _ | refine zD ?_ | refine zA ?_ _)); exact BK194.out)) : gb194 ≠ gb195)); have n6_ := zM ((by rw [hg]; exact Nat.ne_of_gt (blk_lt (g := gb194) (o := .cells #[.string a0_0, .int .i64 a0_1] 62 (0, 0)) (by (with_reducible repeat (first | refine zN ?_ _ | refine zD ?_ | refine zA ?_ _)); exact BK194.out)) : gb195 ≠ gb194)); clear BK194; clear HB; have BK194 := n0_; have HB := n1_; have BK195 := n2_; have GW195 := n3_; have GE195 := n4_; have NB194_195 := n5_; have NB195_194 := n6_; clear n0_ n1_ n2_ n3_ n4_ n5_ n6_; clear hb hbox hg))
 (try simp only [Act.put, zT, zZ, zU])
 go_cut [14] (fun v14 wc => ∃ (kq : Nat) (x14_2 : Bool), v14 = .bool x14_2 ∧ Aside0 (lodestoneref04_R_Bytes.j0 kq a1 x14_2 a0_0 a0_1 = some (r1, r2, r3)) ∧ Aside0 (kq ≤ k) ∧ Aside0 (wc.heap[gb194]? = some (.cells #[.string a0_0, .int .i64 a0_1] 62 (0, 0))) ∧ Aside0 (wc.heap[gb195]? = some (.cells #[.string (⟨#[]⟩ : ByteArray), .int .i64 0] 62 (0, 0))) ∧ Aside0 (Below w.heap.size w wc))
 case first =>
  have H := HC3.out
  clear HC3
  by_cases c6 : a1 < 0
  ·rw [if_pos c6] at H
   have c6b0 : decide (a1 < 0) = true := decide_eq_true c6
   clear c6
   (first | rw [c6b0] | (simp only [i64_w, i32_w]; rw [c6b0]) | skip)
   have H' := zM H
   clear H
   go_wp2
   go_meet
   case rel => exact ⟨_, (true), (by first | rfl | (simp; done) | (simp [*]; done)), H', ⟨by first | omega | exact Nat.le_refl _⟩, ⟨by (with_reducible repeat (first | refine zN ?_ _ | refine zD ?_ | refine zA ?_ _)); exact BK194.out⟩, ⟨by (with_reducible repeat (first | refine zN ?_ _ | refine zD ?_ | refine zA ?_ _)); exact BK195.out⟩, ⟨by repeat (first | (with_reducible first | exact HB.out | apply zL | apply zP | apply zW | refine zS ?_ GE194.out | refine zS ?_ GE195.out) | exact HB.out)⟩⟩
  ·rw [if_neg c6] at H
   have c6b0 : decide (a1 < 0) = false := decide_eq_false c6
   clear c6
   (first | rw [c6b0] | (simp only [i64_w, i32_w]; rw [c6b0]) | skip)
   have H' := zM H
   clear H
   have hnb7 := NB194_195.out
   have hnc7 := NB195_194.out
   have hcz8_0 : w5.cell? ⟨gb194, 0, none⟩ = some (.string a0_0) := (zC BK194.out 0).trans rfl
   have hcz8_1 : w5.cell? ⟨gb194, 1, none⟩ = some (.int .i64 a0_1) := (zC BK194.out 1).trans rfl
   have hfz8_0 := zF BK194.out 0
   have hfz8_1 := zF BK194.out 1
   go_wp2
   go_meet
   case rel => exact ⟨_, (decide (a1 > (a0_0.size : Int))), (by first | rfl | (simp; done) | (simp [*]; done)), H', ⟨by first | omega | exact Nat.le_refl _⟩, ⟨by (with_reducible repeat (first | refine zN ?_ _ | refine zD ?_ | refine zA ?_ _)); exact BK194.out⟩, ⟨by (with_reducible repeat (first | refine zN ?_ _ | refine zD ?_ | refine zA ?_ _)); exact BK195.out⟩, ⟨by repeat (first | (with_reducible first | exact HB.out | apply zL | apply zP | apply zW | refine zS ?_ GE194.out | refine zS ?_ GE195.out) | exact HB.out)⟩⟩
 case rest =>
  clear HC3
  try clear p2
  try clear c5
  try clear c6
  try clear c6b0
  try clear c7
  try clear hcz8_0
  try clear hcz8_1
  try clear hfz8_0
  try clear hfz8_1
  obtain ⟨kq, x14_2, rfl, HA, HJ2, BK194, BK195, HB⟩ := hcut
  cases kq with
  | zero => exact absurd HA.out (by simp [lodestoneref04_R_Bytes.j0])
  | succ kj2 =>
   have H := HA.out
   clear HA
   simp only [lodestoneref04_R_Bytes.j0] at H
   by_cases c9 : x14_2 = true
   ·subst c9
    have H1 : ((lodestoneref04_R_Fail.f a0_0 a0_1 2).bind fun bt196 => (some (bt196.1, bt196.2, (⟨#[]⟩ : ByteArray)))) = some (r1, r2, r3) := by rw [if_pos rfl] at H; exact H
    clear H
    have H := H1
    clear H1
    replace H := Option.bind_eq_some_iff.mp H
    obtain ⟨⟨t196, t197⟩, A100, H⟩ := H
    replace H : (some (t196, t197, (⟨#[]⟩ : ByteArray))) = some (r1, r2, r3) := H
    have A10 := zM A100
    clear A100
    simp only [Option.some.injEq, Prod.mk.injEq] at H
    obtain ⟨rfl, rfl, rfl⟩ := H
    have hnb11 := NB194_195.out
    have hnc11 := NB195_194.out
    have hcz12_0 : wc.cell? ⟨gb194, 0, none⟩ = some (.string a0_0) := (zC BK194.out 0).trans rfl
    have hcz12_1 : wc.cell? ⟨gb194, 1, none⟩ = some (.int .i64 a0_1) := (zC BK194.out 1).trans rfl
    have hfz12_0 := zF BK194.out 0
    have hfz12_1 := zF BK194.out 1
    go_wp2_with (first | ((with_reducible refine gate_callee (f := 69) rfl ?_); refine goesL_ (some 16) rfl rfl Tryd.func69 (by kernel_rfl) rfl #[.agg #[.string a0_0, .int .i64 a0_1], .int .i64 2] rfl (by (try simp only [zY, List.map_cons, List.map_nil]); first | done | rfl | (simp only [zV, zX]; rfl)) ?_; (with_reducible refine (lodestoneref04_R_Fail.calls a0_0 a0_1 2 t196 t197 _ A10.out).mono ?_); rintro e w13 ⟨rfl, hb⟩; refine ⟨_, rfl, ?_⟩; have n0_ := zM (zB (g := gb194) (o := .cells #[.string a0_0, .int .i64 a0_1] 62 (0, 0)) (by (with_reducible repeat (first | refine zN ?_ _ | refine zD ?_ | refine zA ?_ _)); exact BK194.out) hb); have n1_ := zM (zB (g := gb195) (o := .cells #[.string (⟨#[]⟩ : ByteArray), .int .i64 0] 62 (0, 0)) (by (with_reducible repeat (first | refine zN ?_ _ | refine zD ?_ | refine zA ?_ _)); exact BK195.out) hb); have n2_ := zM (below_step (by repeat (first | (with_reducible first | exact HB.out | apply zL | apply zP | apply zW | refine zS ?_ GE194.out | refine zS ?_ GE195.out) | exact HB.out)) hb); clear BK194; clear BK195; clear HB; have BK194 := n0_; have BK195 := n1_; have HB := n2_; clear n0_ n1_ n2_; (try clear hb); (try clear hb2); (try clear hk); (try clear hi); have hcz14_0 : w13.cell? ⟨gb195, 0, none⟩ = some (.string (⟨#[]⟩ : ByteArray)) := (zC BK195.out 0).trans rfl; have hcz14_1 : w13.cell? ⟨gb195, 1, none⟩ = some (.int .i64 0) := (zC BK195.out 1).trans rfl; have hfz14_0 := zF BK195.out 0; have hfz14_1 := zF BK195.out 1))
    refine bodyPost_ret (results_ct rfl _ _ gb195 62 #[.string t196, .int .i64 t197] (0, 0) _ rfl (by (with_reducible repeat (first | refine zN ?_ _ | refine zD ?_ | refine zA ?_ _)); refine blk_put (cs := #[.string t196, .int .i64 0]) ?_ 1 _ rfl; (with_reducible repeat (first | refine zN ?_ _ | refine zD ?_ | refine zA ?_ _)); refine blk_put (cs := #[.string (⟨#[]⟩ : ByteArray), .int .i64 0]) ?_ 0 _ rfl; (with_reducible repeat (first | refine zN ?_ _ | refine zD ?_ | refine zA ?_ _)); exact BK195.out) Tryd.underlying62 rfl (by kernel_rfl)) rfl ?_
    exact ⟨by first | rfl | (simp [errW_none, errW_some] <;> rfl) | (simp [*, errW_none, errW_some] <;> rfl), by repeat (first | (with_reducible first | exact HB.out | apply zL | apply zP | apply zW | refine zS ?_ GE194.out | refine zS ?_ GE195.out) | exact HB.out)⟩
   ·replace c9 := Bool.eq_false_iff.mpr c9
    subst c9
    have H1 : (if a0_1 = 0 then (if 0 ≤ a1 then (if a1 ≤ (a0_0.size : Int) then (some (a0_0.extract (a1 : Int).toNat a0_0.size, 0, a0_0.extract 0 (a1 : Int).toNat)) else (none)) else (none)) else (some (a0_0, a0_1, (⟨#[]⟩ : ByteArray)))) = some (r1, r2, r3) := by rw [if_neg (show ¬ (false = true) by decide)] at H; exact H
    clear H
    have H := H1
    clear H1
    by_cases c15 : a0_1 = 0
    ·rw [if_pos c15] at H
     have c15b0 : (a0_1 == 0) = true := beq_iff_eq.mpr c15
     have c15b1 : (a0_1 != 0) = false := bne_eq_false_iff_eq.mpr c15
     clear c15
     by_cases c16 : 0 ≤ a1
     ·rw [if_pos c16] at H
      have c16b0 := eq_true c16
      have c16b1 : decide (0 ≤ a1) = true := decide_eq_true c16
      clear c16
      by_cases c17 : a1 ≤ (a0_0.size : Int)
      ·rw [if_pos c17] at H
       have c17b0 := eq_true c17
       have c17b1 : decide (a1 ≤ (a0_0.size : Int)) = true := decide_eq_true c17
       clear c17
       have c18b0 := eq_true (of_decide_eq_true (by first | (with_reducible assumption) | assumption) : 0 ≤ a1)
       have c19b0 := eq_true (of_decide_eq_true (by first | (with_reducible assumption) | assumption) : a1 ≤ (a0_0.size : Int))
       simp only [Option.some.injEq, Prod.mk.injEq] at H
       obtain ⟨rfl, rfl, rfl⟩ := H
       have hnb20 := NB194_195.out
       have hnc20 := NB195_194.out
       have hcz21_0 : wc.cell? ⟨gb194, 0, none⟩ = some (.string a0_0) := (zC BK194.out 0).trans rfl
       have hcz21_1 : wc.cell? ⟨gb194, 1, none⟩ = some (.int .i64 a0_1) := (zC BK194.out 1).trans rfl
       have hfz21_0 := zF BK194.out 0
       have hfz21_1 := zF BK194.out 1
       try go_wp2
       have n0_ := zM (zD BK194.out)
       have n1_ := zM (zD BK195.out)
       have n2_ := zM (zW HB.out)
       clear BK194
       clear BK195
       clear HB
       have BK194 := n0_
       have BK195 := n1_
       have HB := n2_
       clear n0_ n1_ n2_
       refine start_ (n := 11) (S := fun w' => w'.cell? ⟨gb194, 0, none⟩ = some (.string a0_0) ∧ w'.cell? ⟨gb194, 1, none⟩ = some (.int .i64 a0_1)) (ds := []) zb1_0 (by kernel_rfl) rfl rfl ⟨(zC BK194.out 0).trans rfl, (zC BK194.out 1).trans rfl⟩ (fun hHeld => ?_); refine with_tabW lodestoneref04_R_Bytes.tab5 lodestoneref04_R_Bytes.bits5 (fun HT_ HW_ => ?_)
       generalize wc.drew = w22 at BK194 BK195 HB hHeld ⊢
       refine pure_ (i := 0) (N := some 21) (v := ?_) (a' := ?_) zb1_1 rfl rfl (any_of HT_.out (by kernel_rfl)) (fun _ _ _ h => h) (Or.inl ⟨by rfl, ?_⟩) ?_ ?_
       rotate_left
       ·intro w'
        go_simp
        with_reducible rfl
       rotate_left
       ·simp only [Act.put, zT, zZ, zU, i64_w, i32_w]
        rfl
       refine pure_ (i := 2) (N := some 23) (v := ?_) (a' := ?_) zb1_2 rfl rfl (any_of HT_.out (by kernel_rfl)) (fun _ _ _ h => h) (Or.inl ⟨by rfl, ?_⟩) ?_ ?_
       rotate_left
       ·intro w'
        go_simp
        with_reducible rfl
       rotate_left
       ·simp only [Act.put, zT, zZ, zU, i64_w, i32_w]
        rfl
       refine pure_ (i := 5) (N := some 26) (v := ?_) (a' := ?_) zb1_3 rfl rfl (any_of HT_.out (by kernel_rfl)) (fun _ _ _ h => h) (Or.inl ⟨by rfl, ?_⟩) ?_ ?_
       rotate_left
       ·intro w'
        go_simp
        with_reducible rfl
       rotate_left
       ·simp only [Act.put, zT, zZ, zU, i64_w, i32_w]
        rfl
       refine pure_ (i := 7) (N := some 28) (v := ?_) (a' := ?_) zb1_4 rfl rfl (any_of HT_.out (by kernel_rfl)) (fun _ _ _ h => h) (Or.inl ⟨by rfl, ?_⟩) ?_ ?_
       rotate_left
       ·intro w'
        go_simp
        with_reducible rfl
       rotate_left
       ·simp only [Act.put, zT, zZ, zU, i64_w, i32_w]
        rfl
       refine take_ (i := 1) (N := some 22) (v := ?_) (a' := ?_) zb1_5 rfl rfl (take_ofW HT_.out HW_.out (by kernel_rfl)) (fun _ _ _ h => h) (Or.inl ⟨by rfl, ?_⟩) hHeld ?_ ?_
       rotate_left
       ·rintro w' ⟨s0, s1⟩
        go_simp
        with_reducible rfl
       rotate_left
       ·simp only [Act.put, zT, zZ, zU, i64_w, i32_w]
        rfl
       refine pure_ (i := 3) (N := some 24) (v := ?_) (a' := ?_) zb1_6 rfl rfl (any_of HT_.out (by kernel_rfl)) (fun _ _ _ h => h) (Or.inl ⟨by rfl, ?_⟩) ?_ ?_
       rotate_left
       ·intro w'
        go_simp
        with_reducible rfl
       rotate_left
       ·simp only [Act.put, zT, zZ, zU, i64_w, i32_w]
        rfl
       refine pure_ (i := 4) (N := some 25) (v := ?_) (a' := ?_) zb1_7 rfl rfl (any_of HT_.out (by kernel_rfl)) (fun _ _ _ h => h) (Or.inl ⟨by rfl, ?_⟩) ?_ ?_
       rotate_left
       ·intro w'
        go_simp
        with_reducible rfl
       rotate_left
       ·simp only [Act.put, zT, zZ, zU, i64_w, i32_w]
        rfl
       refine take_ (i := 6) (N := some 27) (v := ?_) (a' := ?_) zb1_8 rfl rfl (take_ofW HT_.out HW_.out (by kernel_rfl)) (fun _ _ _ h => h) (Or.inl ⟨by rfl, ?_⟩) hHeld ?_ ?_
       rotate_left
       ·rintro w' ⟨s0, s1⟩
        go_simp
        with_reducible rfl
       rotate_left
       ·simp only [Act.put, zT, zZ, zU, i64_w, i32_w]
        rfl
       refine pure_ (i := 8) (N := some 29) (v := ?_) (a' := ?_) zb1_9 rfl rfl (any_of HT_.out (by kernel_rfl)) (fun _ _ _ h => h) (Or.inl ⟨by rfl, ?_⟩) ?_ ?_
       rotate_left
       ·intro w'
        go_simp
        with_reducible rfl
       rotate_left
       ·simp only [Act.put, zT, zZ, zU, i64_w, i32_w]
        rfl
       refine one_ (i := 9) (N := none) zb1_10 rfl rfl (one_of HT_.out (by kernel_rfl)) (by decide) (fun K hK => ?_)
       have hs23 : w22.cell? ⟨gb195, 0, none⟩ = some (.string (⟨#[]⟩ : ByteArray)) := (zC BK195.out 0).trans rfl
       have hfs23 := zF BK195.out 0
       have hns23_0 := NB194_195.out
       have hms23_0 := NB195_194.out
       have hs24 : w22.cell? ⟨gb195, 1, none⟩ = some (.int .i64 0) := (zC BK195.out 1).trans rfl
       have hfs24 := zF BK195.out 1
       have hns24_0 := NB194_195.out
       have hms24_0 := NB195_194.out
       refine skip_ (w1 := ?_) (by rfl) rfl ?_ ?_
       rotate_left
       ·go_simp
        rfl
       refine hK.out _ _ ⟨((cell_far (p := ⟨gb195, _, none⟩) NB194_195.out _).trans (((cell_far (p := ⟨gb195, _, none⟩) NB194_195.out _).trans (hHeld.1)))), ((cell_far (p := ⟨gb195, _, none⟩) NB194_195.out _).trans (((cell_far (p := ⟨gb195, _, none⟩) NB194_195.out _).trans (hHeld.2))))⟩ (fun hHeld => ?_)
       clear hK K
       refine pure_ (i := 10) (N := some 5) (v := ?_) (a' := ?_) zb1_11 rfl rfl (any_of HT_.out (by kernel_rfl)) (fun _ _ _ h => h) (Or.inl ⟨by rfl, ?_⟩) ?_ ?_
       rotate_left
       ·intro w'
        go_simp
        with_reducible rfl
       rotate_left
       ·simp only [Act.put, zT, zZ, zU, i64_w, i32_w]
        rfl
       refine done_ (done_of HT_.out (by kernel_rfl)) ?_
       try go_wp2
       refine bodyPost_ret (results_ct rfl _ _ gb195 62 #[.string (a0_0.extract (a1 : Int).toNat a0_0.size), .int .i64 0] (0, 0) _ rfl (by (with_reducible repeat (first | refine zN ?_ _ | refine zD ?_ | refine zA ?_ _)); refine blk_put (cs := #[.string (a0_0.extract (a1 : Int).toNat a0_0.size), .int .i64 0]) ?_ 1 _ rfl; (with_reducible repeat (first | refine zN ?_ _ | refine zD ?_ | refine zA ?_ _)); refine blk_put (cs := #[.string (⟨#[]⟩ : ByteArray), .int .i64 0]) ?_ 0 _ rfl; (with_reducible repeat (first | refine zN ?_ _ | refine zD ?_ | refine zA ?_ _)); exact BK195.out) Tryd.underlying62 rfl (by kernel_rfl)) rfl ?_
       exact ⟨by first | rfl | (simp [errW_none, errW_some] <;> rfl) | (simp [*, errW_none, errW_some] <;> rfl), by repeat (first | (with_reducible first | exact HB.out | apply zL | apply zP | apply zW | refine zS ?_ GE194.out | refine zS ?_ GE195.out) | exact HB.out)⟩
      ·rw [if_neg c17] at H
       exact absurd H (by simp)
     ·rw [if_neg c16] at H
      exact absurd H (by simp)
    ·rw [if_neg c15] at H
     have c15b0 : (a0_1 == 0) = false := beq_eq_false_iff_ne.mpr c15
     have c15b1 : (a0_1 != 0) = true := bne_iff_ne.mpr c15
     simp only [Option.some.injEq, Prod.mk.injEq] at H
     obtain ⟨rfl, rfl, rfl⟩ := H
     have hnb25 := NB194_195.out
     have hnc25 := NB195_194.out
     have hcz26_0 : wc.cell? ⟨gb194, 0, none⟩ = some (.string a0_0) := (zC BK194.out 0).trans rfl
     have hcz26_1 : wc.cell? ⟨gb194, 1, none⟩ = some (.int .i64 a0_1) := (zC BK194.out 1).trans rfl
     have hfz26_0 := zF BK194.out 0
     have hfz26_1 := zF BK194.out 1
     have hcz27_0 : wc.cell? ⟨gb195, 0, none⟩ = some (.string (⟨#[]⟩ : ByteArray)) := (zC BK195.out 0).trans rfl
     have hcz27_1 : wc.cell? ⟨gb195, 1, none⟩ = some (.int .i64 0) := (zC BK195.out 1).trans rfl
     have hfz27_0 := zF BK195.out 0
     have hfz27_1 := zF BK195.out 1
     go_wp2
     refine bodyPost_ret (results_ct rfl _ _ gb195 62 #[.string a0_0, .int .i64 a0_1] (0, 0) _ rfl (by (with_reducible repeat (first | refine zN ?_ _ | refine zD ?_ | refine zA ?_ _)); refine blk_put (cs := #[.string a0_0, .int .i64 0]) ?_ 1 _ rfl; (with_reducible repeat (first | refine zN ?_ _ | refine zD ?_ | refine zA ?_ _)); refine blk_put (cs := #[.string (⟨#[]⟩ : ByteArray), .int .i64 0]) ?_ 0 _ rfl; (with_reducible repeat (first | refine zN ?_ _ | refine zD ?_ | refine zA ?_ _)); exact BK195.out) Tryd.underlying62 rfl (by kernel_rfl)) rfl ?_
     exact ⟨by first | rfl | (simp [errW_none, errW_some] <;> rfl) | (simp [*, errW_none, errW_some] <;> rfl), by repeat (first | (with_reducible first | exact HB.out | apply zL | apply zP | apply zW | refine zS ?_ GE194.out | refine zS ?_ GE195.out) | exact HB.out)⟩
def lodestoneref04_R_High.l0 : Nat → ByteArray → Int → Int → ByteArray → Int → Option (ByteArray × Int × Int)
 | 0, _, _, _, _, _ => none
 | k + 1, x7, x8, x9, x204000, x204001 => if x9 < (x7.size : Int) then (if 0 ≤ x9 then (lodestoneref04_R_High.l0 k x7 (IntKind.u64.wrap ((IntKind.u64.wrap (x8 * 256)) + (IntKind.u64.wrap (bt x7 x9)))) (wrap64 (x9 + 1)) x204000 x204001) else (none)) else (some (x204000, x204001, x8))
def lodestoneref04_R_High.f (k : Nat) (a0_0 : ByteArray) (a0_1 : Int) (a1 : Int) : Option (ByteArray × Int × Int) := (lodestoneref04_R_Bytes.f k a0_0 a0_1 a1).bind fun bt200 => (lodestoneref04_R_High.l0 k bt200.2.2 0 0 bt200.1 bt200.2.1)
theorem lodestoneref04_R_High.mono_l : ∀ k, (∀ y0 y1 y2 y3 y4, LeO (lodestoneref04_R_High.l0 k y0 y1 y2 y3 y4) (lodestoneref04_R_High.l0 (k + 1) y0 y1 y2 y3 y4))
 | 0 => fun _ _ _ _ _ r h => by simp [lodestoneref04_R_High.l0] at h
 | k + 1 => by
  have ih0 := lodestoneref04_R_High.mono_l k
  ·intro y0 y1 y2 y3 y4
   unfold lodestoneref04_R_High.l0
   repeat' first
   | (with_reducible exact ih0 _ _ _ _ _)
   | (with_reducible exact lodestoneref04_R_Bytes.mono _ _ _ _)
   | (with_reducible exact LeO.refl _)
   | (with_reducible exact LeO.none _)
   | (with_reducible refine LeO.ite ?_ ?_)
   | (with_reducible refine LeO.bind ?_ (fun _ => ?_))
   | exact ih0 _ _ _ _ _
   | exact lodestoneref04_R_Bytes.mono _ _ _ _
   | exact LeO.none _
   | refine LeO.ite ?_ ?_
   | refine LeO.bind ?_ (fun _ => ?_)
theorem lodestoneref04_R_High.mono : ∀ a0 a1 a2 k, LeO (lodestoneref04_R_High.f k a0 a1 a2) (lodestoneref04_R_High.f (k + 1) a0 a1 a2) := by
 intro a0 a1 a2 k
 have ih0 := lodestoneref04_R_High.mono_l k
 unfold lodestoneref04_R_High.f
 repeat' first
   | (with_reducible exact ih0 _ _ _ _ _)
   | (with_reducible exact lodestoneref04_R_Bytes.mono _ _ _ _)
   | (with_reducible exact LeO.refl _)
   | (with_reducible exact LeO.none _)
   | (with_reducible refine LeO.ite ?_ ?_)
   | (with_reducible refine LeO.bind ?_ (fun _ => ?_))
   | exact ih0 _ _ _ _ _
   | exact lodestoneref04_R_Bytes.mono _ _ _ _
   | exact LeO.none _
   | refine LeO.ite ?_ ?_
   | refine LeO.bind ?_ (fun _ => ?_)
set_option maxHeartbeats 8000000 in
set_option maxRecDepth 100000 in
theorem lodestoneref04_R_High.calls (k : Nat) (a0_0 : ByteArray) (a0_1 : Int) (a1 : Int) (r1 : ByteArray) (r2 : Int) (r3 : Int) (w : World) (h : lodestoneref04_R_High.f k a0_0 a0_1 a1 = some (r1, r2, r3)) :
  Calls Tryd.prog 28 #[.agg #[.string a0_0, .int .i64 a0_1], .int .i64 a1] w fun e w' => e = .returned (.tuple #[.agg #[.string r1, .int .i64 r2], .int .u64 r3]) ∧ Below w.heap.size w w' := by
 have hu62 := Tryd.underlying62
 have HB := zM (Below.refl w.heap.size w)
 have H : ((lodestoneref04_R_Bytes.f k a0_0 a0_1 a1).bind fun bt200 => (lodestoneref04_R_High.l0 k bt200.2.2 0 0 bt200.1 bt200.2.1)) = some (r1, r2, r3) := h
 clear h
 replace H := Option.bind_eq_some_iff.mp H
 obtain ⟨⟨t200, t201, t202⟩, A30, H⟩ := H
 replace H : (lodestoneref04_R_High.l0 k t202 0 0 t200 t201) = some (r1, r2, r3) := H
 have A3 := zM A30
 clear A30
 have H' := zM H
 clear H
 go_enter Tryd.func28, Tryd.ntmps28
 go_wp2_with (first | ((with_reducible refine gate_dst (N := 2) rfl ?_); refine box_event ?hg (N := 2) ?hd (cs := #[.string a0_0, .int .i64 a0_1]) (t := 62) ?hr ?_; (case hd => rfl); (case hg => rfl); (case hr => first | (go_simp; done) | (go_simp; rfl)); intro gb198 hg w4 hbox hb; have n0_ := zM (below_step (by repeat (first | (with_reducible first | exact HB.out | apply zL | apply zP | apply zW) | exact HB.out)) hb); have n1_ := zM (hbox); have n2_ := zM ((by rw [hg]; exact (below_size (by repeat (first | (with_reducible first | exact HB.out | apply zL | apply zP | apply zW) | exact HB.out))) : w.heap.size ≤ gb198)); have n3_ := zM ((by rw [hg]; exact (below_size (by repeat (first | (with_reducible first | exact HB.out | apply zL | apply zP | apply zW) | exact HB.out))) : w.heap.size ≤ gb198)); clear HB; have HB := n0_; have BK198 := n1_; have GW198 := n2_; have GE198 := n3_; clear n0_ n1_ n2_ n3_; clear hb hbox hg) | ((with_reducible refine gate_dst (N := 4) rfl ?_); refine box_event ?hg (N := 4) ?hd (cs := #[.string (⟨#[]⟩ : ByteArray), .int .i64 0]) (t := 62) ?hr ?_; (case hd => rfl); (case hg => rfl); (case hr => first | (go_simp; done) | (go_simp; rfl)); intro gb199 hg w5 hbox hb; have n0_ := zM (zB (g := gb198) (o := .cells #[.string a0_0, .int .i64 a0_1] 62 (0, 0)) (by (with_reducible repeat (first | refine zN ?_ _ | refine zD ?_ | refine zA ?_ _)); exact BK198.out) hb); have n1_ := zM (below_step (by repeat (first | (with_reducible first | exact HB.out | apply zL | apply zP | apply zW | refine zS ?_ GE198.out) | exact HB.out)) hb); have n2_ := zM (hbox); have n3_ := zM ((by rw [hg]; exact (below_size (by repeat (first | (with_reducible first | exact HB.out | apply zL | apply zP | apply zW | refine zS ?_ GE198.out) | exact HB.out))) : w.heap.size ≤ gb199)); have n4_ := zM ((by rw [hg]; exact (below_size (by repeat (first | (with_reducible first | exact HB.out | apply zL | apply zP | apply zW | refine zS ?_ GE198.out) | exact HB.out))) : w.heap.size ≤ gb199)); have n5_ := zM ((by rw [hg]; exact Nat.ne_of_lt (blk_lt (g := gb198) (o := .cells #[.string a0_0, .int .i64 a0_1] 62 (0, 0)) (by (with_reducible repeat (first | refine zN ?_ _ | refine zD ?_ | refine zA ?_ _)); exact BK198.out)) : gb198 ≠ gb199)); have n6_ := zM ((by rw [hg]; exact Nat.ne_of_gt (blk_lt (g := gb198) (o := .cells #[.string a0_0, .int .i64 a0_1] 62 (0, 0)) (by (with_reducible repeat (first | refine zN ?_ _ | refine zD ?_ | refine zA ?_ _)); exact BK198.out)) : gb199 ≠ gb198)); clear BK198; clear HB; have BK198 := n0_; have HB := n1_; have BK199 := n2_; have GW199 := n3_; have GE199 := n4_; have NB198_199 := n5_; have NB199_198 := n6_; clear n0_ n1_ n2_ n3_ n4_ n5_ n6_; clear hb hbox hg; have hnb6 := NB198_199.out; have hnc6 := NB199_198.out; have hcz7_0 : w5.cell? ⟨gb198, 0, none⟩ = some (.string a0_0) := (zC BK198.out 0).trans rfl; have hcz7_1 : w5.cell? ⟨gb198, 1, none⟩ = some (.int .i64 a0_1) := (zC BK198.out 1).trans rfl; have hfz7_0 := zF BK198.out 0; have hfz7_1 := zF BK198.out 1) | ((with_reducible refine gate_callee (f := 54) rfl ?_); refine goesL_ (some 13) rfl rfl Tryd.func54 (by kernel_rfl) rfl #[.agg #[.string a0_0, .int .i64 a0_1], .int .i64 a1] rfl (by (try simp only [zY, List.map_cons, List.map_nil]); first | done | rfl | (simp only [zV, zX]; rfl)) ?_; (with_reducible refine (lodestoneref04_R_Bytes.calls k a0_0 a0_1 a1 t200 t201 t202 _ A3.out).mono ?_); rintro e w8 ⟨rfl, hb⟩; refine ⟨_, rfl, ?_⟩; have n0_ := zM (zB (g := gb198) (o := .cells #[.string a0_0, .int .i64 a0_1] 62 (0, 0)) (by (with_reducible repeat (first | refine zN ?_ _ | refine zD ?_ | refine zA ?_ _)); exact BK198.out) hb); have n1_ := zM (zB (g := gb199) (o := .cells #[.string (⟨#[]⟩ : ByteArray), .int .i64 0] 62 (0, 0)) (by (with_reducible repeat (first | refine zN ?_ _ | refine zD ?_ | refine zA ?_ _)); exact BK199.out) hb); have n2_ := zM (below_step (by repeat (first | (with_reducible first | exact HB.out | apply zL | apply zP | apply zW | refine zS ?_ GE198.out | refine zS ?_ GE199.out) | exact HB.out)) hb); clear BK198; clear BK199; clear HB; have BK198 := n0_; have BK199 := n1_; have HB := n2_; clear n0_ n1_ n2_; (try clear hb); (try clear hb2); (try clear hk); (try clear hi)) | ((with_reducible refine gate_dst (N := 6) rfl ?_); refine box_event ?hg (N := 6) ?hd (cs := #[.string (⟨#[]⟩ : ByteArray), .int .i64 0]) (t := 62) ?hr ?_; (case hd => rfl); (case hg => rfl); (case hr => first | (go_simp; done) | (go_simp; rfl)); intro gb203 hg w9 hbox hb; have n0_ := zM (zB (g := gb198) (o := .cells #[.string a0_0, .int .i64 a0_1] 62 (0, 0)) (by (with_reducible repeat (first | refine zN ?_ _ | refine zD ?_ | refine zA ?_ _)); exact BK198.out) hb); have n1_ := zM (zB (g := gb199) (o := .cells #[.string (⟨#[]⟩ : ByteArray), .int .i64 0] 62 (0, 0)) (by (with_reducible repeat (first | refine zN ?_ _ | refine zD ?_ | refine zA ?_ _)); exact BK199.out) hb); have n2_ := zM (below_step (by repeat (first | (with_reducible first | exact HB.out | apply zL | apply zP | apply zW | refine zS ?_ GE198.out | refine zS ?_ GE199.out) | exact HB.out)) hb); have n3_ := zM (hbox); have n4_ := zM ((by rw [hg]; exact (below_size (by repeat (first | (with_reducible first | exact HB.out | apply zL | apply zP | apply zW | refine zS ?_ GE198.out | refine zS ?_ GE199.out) | exact HB.out))) : w.heap.size ≤ gb203)); have n5_ := zM ((by rw [hg]; exact (below_size (by repeat (first | (with_reducible first | exact HB.out | apply zL | apply zP | apply zW | refine zS ?_ GE198.out | refine zS ?_ GE199.out) | exact HB.out))) : w.heap.size ≤ gb203)); have n6_ := zM ((by rw [hg]; exact Nat.ne_of_lt (blk_lt (g := gb198) (o := .cells #[.string a0_0, .int .i64 a0_1] 62 (0, 0)) (by (with_reducible repeat (first | refine zN ?_ _ | refine zD ?_ | refine zA ?_ _)); exact BK198.out)) : gb198 ≠ gb203)); have n7_ := zM ((by rw [hg]; exact Nat.ne_of_gt (blk_lt (g := gb198) (o := .cells #[.string a0_0, .int .i64 a0_1] 62 (0, 0)) (by (with_reducible repeat (first | refine zN ?_ _ | refine zD ?_ | refine zA ?_ _)); exact BK198.out)) : gb203 ≠ gb198)); have n8_ := zM ((by rw [hg]; exact Nat.ne_of_lt (blk_lt (g := gb199) (o := .cells #[.string (⟨#[]⟩ : ByteArray), .int .i64 0] 62 (0, 0)) (by (with_reducible repeat (first | refine zN ?_ _ | refine zD ?_ | refine zA ?_ _)); exact BK199.out)) : gb199 ≠ gb203)); have n9_ := zM ((by rw [hg]; exact Nat.ne_of_gt (blk_lt (g := gb199) (o := .cells #[.string (⟨#[]⟩ : ByteArray), .int .i64 0] 62 (0, 0)) (by (with_reducible repeat (first | refine zN ?_ _ | refine zD ?_ | refine zA ?_ _)); exact BK199.out)) : gb203 ≠ gb199)); clear BK198; clear BK199; clear HB; have BK198 := n0_; have BK199 := n1_; have HB := n2_; have BK203 := n3_; have GW203 := n4_; have GE203 := n5_; have NB198_203 := n6_; have NB203_198 := n7_; have NB199_203 := n8_; have NB203_199 := n9_; clear n0_ n1_ n2_ n3_ n4_ n5_ n6_ n7_ n8_ n9_; clear hb hbox hg; have hnb10 := NB203_198.out; have hnc10 := NB198_203.out; have hnb11 := NB203_199.out; have hnc11 := NB199_203.out; have hcz12_0 : w9.cell? ⟨gb203, 0, none⟩ = some (.string (⟨#[]⟩ : ByteArray)) := (zC BK203.out 0).trans rfl; have hcz12_1 : w9.cell? ⟨gb203, 1, none⟩ = some (.int .i64 0) := (zC BK203.out 1).trans rfl; have hfz12_0 := zF BK203.out 0; have hfz12_1 := zF BK203.out 1))
 go_loopg [8, 9] k (fun kq v8 v9 w' => ∃ (x8_1 : Int) (x9_1 : Int), v8 = .int .u64 x8_1 ∧ v9 = .int .i64 x9_1 ∧ Aside0 (lodestoneref04_R_High.l0 kq t202 x8_1 x9_1 t200 t201 = some (r1, r2, r3)) ∧ Aside0 (kq ≤ k) ∧ Aside0 (w'.heap[gb198]? = some (.cells #[.string a0_0, .int .i64 a0_1] 62 (0, 0))) ∧ Aside0 (w'.heap[gb199]? = some (.cells #[.string (⟨#[]⟩ : ByteArray), .int .i64 0] 62 (0, 0))) ∧ Aside0 (w'.heap[gb203]? = some (.cells #[.string t200, .int .i64 t201] 62 (0, 0))) ∧ Aside0 (Below w.heap.size w w'))
 case atStart => exact ⟨(0), (0), (by first | rfl | (simp; done) | (simp [*]; done)), (by first | rfl | (simp; done) | (simp [*]; done)), H', ⟨Nat.le_refl _⟩, ⟨by (with_reducible repeat (first | refine zN ?_ _ | refine zD ?_ | refine zA ?_ _)); refine blk_far ?_ NB198_203.out _; (with_reducible repeat (first | refine zN ?_ _ | refine zD ?_ | refine zA ?_ _)); refine blk_far ?_ NB198_203.out _; (with_reducible repeat (first | refine zN ?_ _ | refine zD ?_ | refine zA ?_ _)); exact BK198.out⟩, ⟨by (with_reducible repeat (first | refine zN ?_ _ | refine zD ?_ | refine zA ?_ _)); refine blk_far ?_ NB199_203.out _; (with_reducible repeat (first | refine zN ?_ _ | refine zD ?_ | refine zA ?_ _)); refine blk_far ?_ NB199_203.out _; (with_reducible repeat (first | refine zN ?_ _ | refine zD ?_ | refine zA ?_ _)); exact BK199.out⟩, ⟨by (with_reducible repeat (first | refine zN ?_ _ | refine zD ?_ | refine zA ?_ _)); refine blk_put (cs := #[.string t200, .int .i64 0]) ?_ 1 _ rfl; (with_reducible repeat (first | refine zN ?_ _ | refine zD ?_ | refine zA ?_ _)); refine blk_put (cs := #[.string (⟨#[]⟩ : ByteArray), .int .i64 0]) ?_ 0 _ rfl; (with_reducible repeat (first | refine zN ?_ _ | refine zD ?_ | refine zA ?_ _)); exact BK203.out⟩, ⟨by repeat (first | (with_reducible first | exact HB.out | apply zL | apply zP | apply zW | refine zS ?_ GE198.out | refine zS ?_ GE199.out | refine zS ?_ GE203.out) | exact HB.out)⟩⟩
 case round =>
  clear H'
  try clear c1
  try clear c2
  try clear p2
  try clear c5
  try clear c6
  try clear c10
  try clear c11
  try clear hcz12_0
  try clear hcz12_1
  try clear hcz7_0
  try clear hcz7_1
  try clear hfz12_0
  try clear hfz12_1
  try clear hfz7_0
  try clear hfz7_1
  obtain ⟨x8_1, x9_1, rfl, rfl, HA, HK1, BK198, BK199, BK203, HB⟩ := hrel
  cases gk with
  | zero => exact absurd HA.out (by simp [lodestoneref04_R_High.l0])
  | succ k1 =>
   have H := HA.out
   clear HA
   simp only [lodestoneref04_R_High.l0] at H
   by_cases c13 : x9_1 < (t202.size : Int)
   ·rw [if_pos c13] at H
    have c13b0 : decide (x9_1 < (t202.size : Int)) = true := decide_eq_true c13
    clear c13
    by_cases c14 : 0 ≤ x9_1
    ·rw [if_pos c14] at H
     have c14b0 : decide (0 ≤ x9_1) = true := decide_eq_true c14
     clear c14
     have H' := zM H
     clear H
     have p15 : 0 ≤ (x9_1 : Int) := of_decide_eq_true (by first | (with_reducible assumption) | assumption)
     have q15 : x9_1 < (t202.size : Int) := of_decide_eq_true (by first | (with_reducible assumption) | assumption)
     have hx15 := bt_at t202 x9_1
     replace p15 := eq_true p15
     replace q15 := eq_true q15
     go_wp2
     go_roundg k1
     case measure => have := HK1.out; omega
     case rel => exact ⟨(IntKind.u64.wrap ((IntKind.u64.wrap (x8_1 * 256)) + (IntKind.u64.wrap (bt t202 x9_1)))), (wrap64 (x9_1 + 1)), (by first | rfl | (simp; done) | (simp [*]; done)), (by first | rfl | (simp; done) | (simp [*]; done)), H', ⟨by have := HK1.out; omega⟩, ⟨by (with_reducible repeat (first | refine zN ?_ _ | refine zD ?_ | refine zA ?_ _)); exact BK198.out⟩, ⟨by (with_reducible repeat (first | refine zN ?_ _ | refine zD ?_ | refine zA ?_ _)); exact BK199.out⟩, ⟨by (with_reducible repeat (first | refine zN ?_ _ | refine zD ?_ | refine zA ?_ _)); exact BK203.out⟩, ⟨by repeat (first | (with_reducible first | exact HB.out | apply zL | apply zP | apply zW | refine zS ?_ GE198.out | refine zS ?_ GE199.out | refine zS ?_ GE203.out) | exact HB.out)⟩⟩
    ·rw [if_neg c14] at H
     exact absurd H (by simp)
   ·rw [if_neg c13] at H
    have c13b0 : decide (x9_1 < (t202.size : Int)) = false := decide_eq_false c13
    clear c13
    simp only [Option.some.injEq, Prod.mk.injEq] at H
    obtain ⟨rfl, rfl, rfl⟩ := H
    have hnb16 := NB203_198.out
    have hnc16 := NB198_203.out
    have hnb17 := NB203_199.out
    have hnc17 := NB199_203.out
    have hcz18_0 : wr.cell? ⟨gb203, 0, none⟩ = some (.string t200) := (zC BK203.out 0).trans rfl
    have hcz18_1 : wr.cell? ⟨gb203, 1, none⟩ = some (.int .i64 t201) := (zC BK203.out 1).trans rfl
    have hfz18_0 := zF BK203.out 0
    have hfz18_1 := zF BK203.out 1
    have hnb19 := NB199_198.out
    have hnc19 := NB198_199.out
    have hcz20_0 : wr.cell? ⟨gb199, 0, none⟩ = some (.string (⟨#[]⟩ : ByteArray)) := (zC BK199.out 0).trans rfl
    have hcz20_1 : wr.cell? ⟨gb199, 1, none⟩ = some (.int .i64 0) := (zC BK199.out 1).trans rfl
    have hfz20_0 := zF BK199.out 0
    have hfz20_1 := zF BK199.out 1
    go_wp2
    refine bodyPost_ret (results_ct rfl _ _ gb199 62 #[.string t200, .int .i64 t201] (0, 0) _ rfl (by (with_reducible repeat (first | refine zN ?_ _ | refine zD ?_ | refine zA ?_ _)); refine blk_put (cs := #[.string t200, .int .i64 0]) ?_ 1 _ rfl; (with_reducible repeat (first | refine zN ?_ _ | refine zD ?_ | refine zA ?_ _)); refine blk_put (cs := #[.string (⟨#[]⟩ : ByteArray), .int .i64 0]) ?_ 0 _ rfl; (with_reducible repeat (first | refine zN ?_ _ | refine zD ?_ | refine zA ?_ _)); exact BK199.out) Tryd.underlying62 rfl (by kernel_rfl)) rfl ?_
    exact ⟨by first | rfl | (simp [errW_none, errW_some] <;> rfl) | (simp [*, errW_none, errW_some] <;> rfl), by repeat (first | (with_reducible first | exact HB.out | apply zL | apply zP | apply zW | refine zS ?_ GE198.out | refine zS ?_ GE199.out | refine zS ?_ GE203.out) | exact HB.out)⟩
def lodestoneref11_Get.l0 : Nat → ByteArray → Int → Int → Int → Int → Int → Option (Int × Int × Int × ByteArray × Int)
 | 0, _, _, _, _, _, _ => none
 | k + 1, x17, x18, x19, x224000, x224001, x224002 => if x19 < (x17.size : Int) then (if 0 ≤ x19 then (if (bt x17 x19) = 0 then (lodestoneref11_Get.l0 k x17 x18 (wrap64 (x19 + 1)) x224000 x224001 x224002) else (some (0, 0, 0, (⟨#[]⟩ : ByteArray), 3))) else (none)) else (if 2 ≤ (wrap64 (2 + x18)) then (if (wrap64 (2 + x18)) ≤ (x17.size : Int) then (some (x224000, x224001, x224002, x17.extract 2 ((wrap64 (2 + x18)) : Int).toNat, 0)) else (none)) else (none))
theorem lodestoneref11_Get.l0_succ (k : Nat) (x17 : ByteArray) (x18 : Int) (x19 : Int) (x224000 : Int) (x224001 : Int) (x224002 : Int) : lodestoneref11_Get.l0 (k + 1) x17 x18 x19 x224000 x224001 x224002 = (if x19 < (x17.size : Int) then (if 0 ≤ x19 then (if (bt x17 x19) = 0 then (lodestoneref11_Get.l0 k x17 x18 (wrap64 (x19 + 1)) x224000 x224001 x224002) else (some (0, 0, 0, (⟨#[]⟩ : ByteArray), 3))) else (none)) else (if 2 ≤ (wrap64 (2 + x18)) then (if (wrap64 (2 + x18)) ≤ (x17.size : Int) then (some (x224000, x224001, x224002, x17.extract 2 ((wrap64 (2 + x18)) : Int).toNat, 0)) else (none)) else (none))) := rfl
def lodestoneref11_Get.f (k : Nat) (a0 : ByteArray) (a1 : Int) (a2 : ByteArray) : Option (Int × Int × Int × ByteArray × Int) := if (a2.size : Int) = 512 then ((lodestoneref04_R_High.f k a2 0 4).bind fun bt213 => ((lodestoneref04_R_High.f k bt213.1 bt213.2.1 8).bind fun bt216 => ((lodestoneref04_R_High.f k bt216.1 bt216.2.1 4).bind fun bt219 => ((lodestoneref09_Keys.f k a0 ((bt213.2.2) % 4294967296)).bind fun bt224 => ((lodestoneref04_High.f k ((a1) % 4294967296) 4).bind fun t226 => (if 4 ≤ 480 then (if 480 ≤ (a2.size : Int) then (if t226.size + (a2.extract 4 480).size ≤ 9223372036854775807 then ((lodestoneref01_Tag.f bt224.2 (t226 ++ (a2.extract 4 480))).bind fun t227 => (if t227.toList = (a2.extract 480 a2.size).toList then (if 4 ≤ 16 then (if 16 ≤ (a2.size : Int) then (if 16 ≤ 480 then ((lodestoneref03_Turn.f k bt224.1 (a2.extract 4 16) (a2.extract 16 480)).bind fun t228 => (if 0 < (t228.size : Int) then (if 1 < (t228.size : Int) then (if (wrap64 ((wrap64 ((wrap64 (bt t228 0)) * 256)) + (wrap64 (bt t228 1)))) > 462 then (some (0, 0, 0, (⟨#[]⟩ : ByteArray), 3)) else (lodestoneref11_Get.l0 k t228 (wrap64 ((wrap64 ((wrap64 (bt t228 0)) * 256)) + (wrap64 (bt t228 1)))) (wrap64 (2 + (wrap64 ((wrap64 ((wrap64 (bt t228 0)) * 256)) + (wrap64 (bt t228 1)))))) ((bt213.2.2) % 4294967296) bt216.2.2 ((bt219.2.2) % 4294967296))) else (none)) else (none))) else (none)) else (none)) else (none)) else (some (0, 0, 0, (⟨#[]⟩ : ByteArray), 100)))) else (none)) else (none)) else (none))))))) else (some (0, 0, 0, (⟨#[]⟩ : ByteArray), 2))
theorem lodestoneref11_Get.mono_l : ∀ k, (∀ y0 y1 y2 y3 y4 y5, LeO (lodestoneref11_Get.l0 k y0 y1 y2 y3 y4 y5) (lodestoneref11_Get.l0 (k + 1) y0 y1 y2 y3 y4 y5))
 | 0 => fun _ _ _ _ _ _ r h => by simp [lodestoneref11_Get.l0] at h
 | k + 1 => by
  have ih0 := lodestoneref11_Get.mono_l k
  ·intro y0 y1 y2 y3 y4 y5
   unfold lodestoneref11_Get.l0
   repeat' first
   | (with_reducible exact ih0 _ _ _ _ _ _)
   | (with_reducible exact lodestoneref03_Turn.mono _ _ _ _)
   | (with_reducible exact lodestoneref04_High.mono _ _ _)
   | (with_reducible exact lodestoneref04_R_High.mono _ _ _ _)
   | (with_reducible exact lodestoneref09_Keys.mono _ _ _)
   | (with_reducible exact LeO.refl _)
   | (with_reducible exact LeO.none _)
   | (with_reducible refine LeO.ite ?_ ?_)
   | (with_reducible refine LeO.bind ?_ (fun _ => ?_))
   | exact ih0 _ _ _ _ _ _
   | exact lodestoneref03_Turn.mono _ _ _ _
   | exact lodestoneref04_High.mono _ _ _
   | exact lodestoneref04_R_High.mono _ _ _ _
   | exact lodestoneref09_Keys.mono _ _ _
   | exact LeO.none _
   | refine LeO.ite ?_ ?_
   | refine LeO.bind ?_ (fun _ => ?_)
theorem lodestoneref11_Get.mono : ∀ a0 a1 a2 k, LeO (lodestoneref11_Get.f k a0 a1 a2) (lodestoneref11_Get.f (k + 1) a0 a1 a2) := by
 intro a0 a1 a2 k
 have ih0 := lodestoneref11_Get.mono_l k
 unfold lodestoneref11_Get.f
 repeat' first
   | (with_reducible exact ih0 _ _ _ _ _ _)
   | (with_reducible exact lodestoneref03_Turn.mono _ _ _ _)
   | (with_reducible exact lodestoneref04_High.mono _ _ _)
   | (with_reducible exact lodestoneref04_R_High.mono _ _ _ _)
   | (with_reducible exact lodestoneref09_Keys.mono _ _ _)
   | (with_reducible exact LeO.refl _)
   | (with_reducible exact LeO.none _)
   | (with_reducible refine LeO.ite ?_ ?_)
   | (with_reducible refine LeO.bind ?_ (fun _ => ?_))
   | exact ih0 _ _ _ _ _ _
   | exact lodestoneref03_Turn.mono _ _ _ _
   | exact lodestoneref04_High.mono _ _ _
   | exact lodestoneref04_R_High.mono _ _ _ _
   | exact lodestoneref09_Keys.mono _ _ _
   | exact LeO.none _
   | refine LeO.ite ?_ ?_
   | refine LeO.bind ?_ (fun _ => ?_)
def lodestoneref11_Get.T9 : Bool × List (List Nat × List Nat) := (true, [([], []), ([], []), ([1], [1]), ([2], [2]), ([3], [3]), ([], []), ([5], [5]), ([4, 6], [4, 6]), ([0, 7, 4], [0, 7]), ([], []), ([9], [9]), ([8, 10], [8, 10])])
def lodestoneref11_Get.B9 : List Nat := [0, 0, 2, 6, 14, 0, 32, 126, 255, 0, 512, 2047]
theorem lodestoneref11_Get.tab9 : rtab .any (opsOf Tryd.f13 9) = lodestoneref11_Get.T9 := by kernel_rfl
theorem lodestoneref11_Get.bits9 : waitsOk lodestoneref11_Get.T9.2 lodestoneref11_Get.B9 = true := by kernel_rfl
def lodestoneref11_Get.T12 : Bool × List (List Nat × List Nat) := (true, [([], []), ([0], [0]), ([1], [1]), ([2], [2]), ([], []), ([4], [4]), ([5], [5]), ([3, 6], [3, 6]), ([7, 0, 1, 2, 3, 4, 5, 6, 7], [7])])
def lodestoneref11_Get.B12 : List Nat := [0, 1, 3, 7, 0, 16, 48, 127, 255]
theorem lodestoneref11_Get.tab12 : rtab .any (opsOf Tryd.f13 12) = lodestoneref11_Get.T12 := by kernel_rfl
theorem lodestoneref11_Get.bits12 : waitsOk lodestoneref11_Get.T12.2 lodestoneref11_Get.B12 = true := by kernel_rfl
def lodestoneref11_Get.T20 : Bool × List (List Nat × List Nat) := (true, [([], []), ([], []), ([], []), ([2], [2]), ([1, 3], [1, 3]), ([0, 0], [0]), ([4, 5, 0, 1, 2, 3, 4, 5], [4]), ([6, 0, 1, 2, 3, 4, 5, 6], [])])
def lodestoneref11_Get.B20 : List Nat := [0, 0, 0, 4, 14, 1, 63, 127]
theorem lodestoneref11_Get.tab20 : rtab .any (opsOf Tryd.f13 20) = lodestoneref11_Get.T20 := by kernel_rfl
theorem lodestoneref11_Get.bits20 : waitsOk lodestoneref11_Get.T20.2 lodestoneref11_Get.B20 = true := by kernel_rfl
set_option maxHeartbeats 8000000 in
set_option maxRecDepth 100000 in
theorem lodestoneref11_Get.calls (k : Nat) (a0 : ByteArray) (a1 : Int) (a2 : ByteArray) (r1 : Int) (r2 : Int) (r3 : Int) (r4 : ByteArray) (r5 : Int) (w : World) (h : lodestoneref11_Get.f k a0 a1 a2 = some (r1, r2, r3, r4, r5)) :
  Calls Tryd.prog 13 #[.string a0, .int .i64 a1, .string a2] w fun e w' => e = .returned (.tuple #[.agg #[.int .u32 r1, .int .u64 r2, .int .u32 r3], .string r4, .int .i64 r5]) ∧ Below w.heap.size w w' := by
 have hu25 := Tryd.underlying25
 have hu62 := Tryd.underlying62
 have HB := zM (Below.refl w.heap.size w)
 have H : (if (a2.size : Int) = 512 then ((lodestoneref04_R_High.f k a2 0 4).bind fun bt213 => ((lodestoneref04_R_High.f k bt213.1 bt213.2.1 8).bind fun bt216 => ((lodestoneref04_R_High.f k bt216.1 bt216.2.1 4).bind fun bt219 => ((lodestoneref09_Keys.f k a0 ((bt213.2.2) % 4294967296)).bind fun bt224 => ((lodestoneref04_High.f k ((a1) % 4294967296) 4).bind fun t226 => (if 4 ≤ 480 then (if 480 ≤ (a2.size : Int) then (if t226.size + (a2.extract 4 480).size ≤ 9223372036854775807 then ((lodestoneref01_Tag.f bt224.2 (t226 ++ (a2.extract 4 480))).bind fun t227 => (if t227.toList = (a2.extract 480 a2.size).toList then (if 4 ≤ 16 then (if 16 ≤ (a2.size : Int) then (if 16 ≤ 480 then ((lodestoneref03_Turn.f k bt224.1 (a2.extract 4 16) (a2.extract 16 480)).bind fun t228 => (if 0 < (t228.size : Int) then (if 1 < (t228.size : Int) then (if (wrap64 ((wrap64 ((wrap64 (bt t228 0)) * 256)) + (wrap64 (bt t228 1)))) > 462 then (some (0, 0, 0, (⟨#[]⟩ : ByteArray), 3)) else (lodestoneref11_Get.l0 k t228 (wrap64 ((wrap64 ((wrap64 (bt t228 0)) * 256)) + (wrap64 (bt t228 1)))) (wrap64 (2 + (wrap64 ((wrap64 ((wrap64 (bt t228 0)) * 256)) + (wrap64 (bt t228 1)))))) ((bt213.2.2) % 4294967296) bt216.2.2 ((bt219.2.2) % 4294967296))) else (none)) else (none))) else (none)) else (none)) else (none)) else (some (0, 0, 0, (⟨#[]⟩ : ByteArray), 100)))) else (none)) else (none)) else (none))))))) else (some (0, 0, 0, (⟨#[]⟩ : ByteArray), 2))) = some (r1, r2, r3, r4, r5) := h
 clear h
 by_cases c4 : (a2.size : Int) = 512
 ·rw [if_pos c4] at H
  have c4b0 : ((a2.size : Int) == 512) = true := beq_iff_eq.mpr c4
  have c4b1 : ((a2.size : Int) != 512) = false := bne_eq_false_iff_eq.mpr c4
  clear c4
  replace H := Option.bind_eq_some_iff.mp H
  obtain ⟨⟨t213, t214, t215⟩, A50, H⟩ := H
  replace H : ((lodestoneref04_R_High.f k t213 t214 8).bind fun bt216 => ((lodestoneref04_R_High.f k bt216.1 bt216.2.1 4).bind fun bt219 => ((lodestoneref09_Keys.f k a0 ((t215) % 4294967296)).bind fun bt224 => ((lodestoneref04_High.f k ((a1) % 4294967296) 4).bind fun t226 => (if 4 ≤ 480 then (if 480 ≤ (a2.size : Int) then (if t226.size + (a2.extract 4 480).size ≤ 9223372036854775807 then ((lodestoneref01_Tag.f bt224.2 (t226 ++ (a2.extract 4 480))).bind fun t227 => (if t227.toList = (a2.extract 480 a2.size).toList then (if 4 ≤ 16 then (if 16 ≤ (a2.size : Int) then (if 16 ≤ 480 then ((lodestoneref03_Turn.f k bt224.1 (a2.extract 4 16) (a2.extract 16 480)).bind fun t228 => (if 0 < (t228.size : Int) then (if 1 < (t228.size : Int) then (if (wrap64 ((wrap64 ((wrap64 (bt t228 0)) * 256)) + (wrap64 (bt t228 1)))) > 462 then (some (0, 0, 0, (⟨#[]⟩ : ByteArray), 3)) else (lodestoneref11_Get.l0 k t228 (wrap64 ((wrap64 ((wrap64 (bt t228 0)) * 256)) + (wrap64 (bt t228 1)))) (wrap64 (2 + (wrap64 ((wrap64 ((wrap64 (bt t228 0)) * 256)) + (wrap64 (bt t228 1)))))) ((t215) % 4294967296) bt216.2.2 ((bt219.2.2) % 4294967296))) else (none)) else (none))) else (none)) else (none)) else (none)) else (some (0, 0, 0, (⟨#[]⟩ : ByteArray), 100)))) else (none)) else (none)) else (none)))))) = some (r1, r2, r3, r4, r5) := H
  have A5 := zM A50
  clear A50
  replace H := Option.bind_eq_some_iff.mp H
  obtain ⟨⟨t216, t217, t218⟩, A60, H⟩ := H
  replace H : ((lodestoneref04_R_High.f k t216 t217 4).bind fun bt219 => ((lodestoneref09_Keys.f k a0 ((t215) % 4294967296)).bind fun bt224 => ((lodestoneref04_High.f k ((a1) % 4294967296) 4).bind fun t226 => (if 4 ≤ 480 then (if 480 ≤ (a2.size : Int) then (if t226.size + (a2.extract 4 480).size ≤ 9223372036854775807 then ((lodestoneref01_Tag.f bt224.2 (t226 ++ (a2.extract 4 480))).bind fun t227 => (if t227.toList = (a2.extract 480 a2.size).toList then (if 4 ≤ 16 then (if 16 ≤ (a2.size : Int) then (if 16 ≤ 480 then ((lodestoneref03_Turn.f k bt224.1 (a2.extract 4 16) (a2.extract 16 480)).bind fun t228 => (if 0 < (t228.size : Int) then (if 1 < (t228.size : Int) then (if (wrap64 ((wrap64 ((wrap64 (bt t228 0)) * 256)) + (wrap64 (bt t228 1)))) > 462 then (some (0, 0, 0, (⟨#[]⟩ : ByteArray), 3)) else (lodestoneref11_Get.l0 k t228 (wrap64 ((wrap64 ((wrap64 (bt t228 0)) * 256)) + (wrap64 (bt t228 1)))) (wrap64 (2 + (wrap64 ((wrap64 ((wrap64 (bt t228 0)) * 256)) + (wrap64 (bt t228 1)))))) ((t215) % 4294967296) t218 ((bt219.2.2) % 4294967296))) else (none)) else (none))) else (none)) else (none)) else (none)) else (some (0, 0, 0, (⟨#[]⟩ : ByteArray), 100)))) else (none)) else (none)) else (none))))) = some (r1, r2, r3, r4, r5) := H
  have A6 := zM A60
  clear A60
  replace H := Option.bind_eq_some_iff.mp H
  obtain ⟨⟨t219, t220, t221⟩, A70, H⟩ := H
  replace H : ((lodestoneref09_Keys.f k a0 ((t215) % 4294967296)).bind fun bt224 => ((lodestoneref04_High.f k ((a1) % 4294967296) 4).bind fun t226 => (if 4 ≤ 480 then (if 480 ≤ (a2.size : Int) then (if t226.size + (a2.extract 4 480).size ≤ 9223372036854775807 then ((lodestoneref01_Tag.f bt224.2 (t226 ++ (a2.extract 4 480))).bind fun t227 => (if t227.toList = (a2.extract 480 a2.size).toList then (if 4 ≤ 16 then (if 16 ≤ (a2.size : Int) then (if 16 ≤ 480 then ((lodestoneref03_Turn.f k bt224.1 (a2.extract 4 16) (a2.extract 16 480)).bind fun t228 => (if 0 < (t228.size : Int) then (if 1 < (t228.size : Int) then (if (wrap64 ((wrap64 ((wrap64 (bt t228 0)) * 256)) + (wrap64 (bt t228 1)))) > 462 then (some (0, 0, 0, (⟨#[]⟩ : ByteArray), 3)) else (lodestoneref11_Get.l0 k t228 (wrap64 ((wrap64 ((wrap64 (bt t228 0)) * 256)) + (wrap64 (bt t228 1)))) (wrap64 (2 + (wrap64 ((wrap64 ((wrap64 (bt t228 0)) * 256)) + (wrap64 (bt t228 1)))))) ((t215) % 4294967296) t218 ((t221) % 4294967296))) else (none)) else (none))) else (none)) else (none)) else (none)) else (some (0, 0, 0, (⟨#[]⟩ : ByteArray), 100)))) else (none)) else (none)) else (none)))) = some (r1, r2, r3, r4, r5) := H
  have A7 := zM A70
  clear A70
  replace H := Option.bind_eq_some_iff.mp H
  obtain ⟨⟨t224, t225⟩, A80, H⟩ := H
  replace H : ((lodestoneref04_High.f k ((a1) % 4294967296) 4).bind fun t226 => (if 4 ≤ 480 then (if 480 ≤ (a2.size : Int) then (if t226.size + (a2.extract 4 480).size ≤ 9223372036854775807 then ((lodestoneref01_Tag.f t225 (t226 ++ (a2.extract 4 480))).bind fun t227 => (if t227.toList = (a2.extract 480 a2.size).toList then (if 4 ≤ 16 then (if 16 ≤ (a2.size : Int) then (if 16 ≤ 480 then ((lodestoneref03_Turn.f k t224 (a2.extract 4 16) (a2.extract 16 480)).bind fun t228 => (if 0 < (t228.size : Int) then (if 1 < (t228.size : Int) then (if (wrap64 ((wrap64 ((wrap64 (bt t228 0)) * 256)) + (wrap64 (bt t228 1)))) > 462 then (some (0, 0, 0, (⟨#[]⟩ : ByteArray), 3)) else (lodestoneref11_Get.l0 k t228 (wrap64 ((wrap64 ((wrap64 (bt t228 0)) * 256)) + (wrap64 (bt t228 1)))) (wrap64 (2 + (wrap64 ((wrap64 ((wrap64 (bt t228 0)) * 256)) + (wrap64 (bt t228 1)))))) ((t215) % 4294967296) t218 ((t221) % 4294967296))) else (none)) else (none))) else (none)) else (none)) else (none)) else (some (0, 0, 0, (⟨#[]⟩ : ByteArray), 100)))) else (none)) else (none)) else (none))) = some (r1, r2, r3, r4, r5) := H
  have A8 := zM A80
  clear A80
  replace H := Option.bind_eq_some_iff.mp H
  obtain ⟨t226, A90, H⟩ := H
  replace H : (if 4 ≤ 480 then (if 480 ≤ (a2.size : Int) then (if t226.size + (a2.extract 4 480).size ≤ 9223372036854775807 then ((lodestoneref01_Tag.f t225 (t226 ++ (a2.extract 4 480))).bind fun t227 => (if t227.toList = (a2.extract 480 a2.size).toList then (if 4 ≤ 16 then (if 16 ≤ (a2.size : Int) then (if 16 ≤ 480 then ((lodestoneref03_Turn.f k t224 (a2.extract 4 16) (a2.extract 16 480)).bind fun t228 => (if 0 < (t228.size : Int) then (if 1 < (t228.size : Int) then (if (wrap64 ((wrap64 ((wrap64 (bt t228 0)) * 256)) + (wrap64 (bt t228 1)))) > 462 then (some (0, 0, 0, (⟨#[]⟩ : ByteArray), 3)) else (lodestoneref11_Get.l0 k t228 (wrap64 ((wrap64 ((wrap64 (bt t228 0)) * 256)) + (wrap64 (bt t228 1)))) (wrap64 (2 + (wrap64 ((wrap64 ((wrap64 (bt t228 0)) * 256)) + (wrap64 (bt t228 1)))))) ((t215) % 4294967296) t218 ((t221) % 4294967296))) else (none)) else (none))) else (none)) else (none)) else (none)) else (some (0, 0, 0, (⟨#[]⟩ : ByteArray), 100)))) else (none)) else (none)) else (none)) = some (r1, r2, r3, r4, r5) := H
  have A9 := zM A90
  clear A90
  by_cases c10 : 4 ≤ 480
  ·rw [if_pos c10] at H
   have c10b0 := eq_true c10
   have c10b1 : decide (4 ≤ 480) = true := decide_eq_true c10
   clear c10
   by_cases c11 : 480 ≤ (a2.size : Int)
   ·rw [if_pos c11] at H
    have c11b0 := eq_true c11
    have c11b1 : decide (480 ≤ (a2.size : Int)) = true := decide_eq_true c11
    clear c11
    by_cases c12 : t226.size + (a2.extract 4 480).size ≤ 9223372036854775807
    ·rw [if_pos c12] at H
     have c12b0 := eq_true c12
     have c12e := c12
     simp only [ByteArray.size_append, ByteArray.size_extract, Nat.min_self] at c12e
     have c12b8 := eq_false (Nat.not_lt.2 c12e)
     have c12b1 : decide (t226.size + (a2.extract 4 480).size ≤ 9223372036854775807) = true := decide_eq_true c12
     try have c12b2 : (9223372036854775807 < t226.size + (a2.extract 4 480).size) = False := eq_false (Nat.not_lt.2 c12)
     replace H := Option.bind_eq_some_iff.mp H
     obtain ⟨t227, A130, H⟩ := H
     replace H : (if t227.toList = (a2.extract 480 a2.size).toList then (if 4 ≤ 16 then (if 16 ≤ (a2.size : Int) then (if 16 ≤ 480 then ((lodestoneref03_Turn.f k t224 (a2.extract 4 16) (a2.extract 16 480)).bind fun t228 => (if 0 < (t228.size : Int) then (if 1 < (t228.size : Int) then (if (wrap64 ((wrap64 ((wrap64 (bt t228 0)) * 256)) + (wrap64 (bt t228 1)))) > 462 then (some (0, 0, 0, (⟨#[]⟩ : ByteArray), 3)) else (lodestoneref11_Get.l0 k t228 (wrap64 ((wrap64 ((wrap64 (bt t228 0)) * 256)) + (wrap64 (bt t228 1)))) (wrap64 (2 + (wrap64 ((wrap64 ((wrap64 (bt t228 0)) * 256)) + (wrap64 (bt t228 1)))))) ((t215) % 4294967296) t218 ((t221) % 4294967296))) else (none)) else (none))) else (none)) else (none)) else (none)) else (some (0, 0, 0, (⟨#[]⟩ : ByteArray), 100))) = some (r1, r2, r3, r4, r5) := H
     have A13 := zM A130
     clear A130
     have c14b0 := eq_true (of_decide_eq_true (by first | (with_reducible assumption) | assumption) : 480 ≤ (a2.size : Int))
     by_cases c15 : t227.toList = (a2.extract 480 a2.size).toList
     ·rw [if_pos c15] at H
      have c15b0 : (t227.toList == (a2.extract 480 a2.size).toList) = true := beq_iff_eq.mpr c15
      have c15b1 : (t227.toList != (a2.extract 480 a2.size).toList) = false := bne_eq_false_iff_eq.mpr c15
      clear c15
      by_cases c16 : 4 ≤ 16
      ·rw [if_pos c16] at H
       have c16b0 := eq_true c16
       have c16b1 : decide (4 ≤ 16) = true := decide_eq_true c16
       clear c16
       by_cases c17 : 16 ≤ (a2.size : Int)
       ·rw [if_pos c17] at H
        have c17b0 := eq_true c17
        have c17b1 : decide (16 ≤ (a2.size : Int)) = true := decide_eq_true c17
        clear c17
        by_cases c18 : 16 ≤ 480
        ·rw [if_pos c18] at H
         have c18b0 := eq_true c18
         have c18b1 : decide (16 ≤ 480) = true := decide_eq_true c18
         clear c18
         have c19b0 := eq_true (of_decide_eq_true (by first | (with_reducible assumption) | assumption) : 480 ≤ (a2.size : Int))
         replace H := Option.bind_eq_some_iff.mp H
         obtain ⟨t228, A200, H⟩ := H
         replace H : (if 0 < (t228.size : Int) then (if 1 < (t228.size : Int) then (if (wrap64 ((wrap64 ((wrap64 (bt t228 0)) * 256)) + (wrap64 (bt t228 1)))) > 462 then (some (0, 0, 0, (⟨#[]⟩ : ByteArray), 3)) else (lodestoneref11_Get.l0 k t228 (wrap64 ((wrap64 ((wrap64 (bt t228 0)) * 256)) + (wrap64 (bt t228 1)))) (wrap64 (2 + (wrap64 ((wrap64 ((wrap64 (bt t228 0)) * 256)) + (wrap64 (bt t228 1)))))) ((t215) % 4294967296) t218 ((t221) % 4294967296))) else (none)) else (none)) = some (r1, r2, r3, r4, r5) := H
         have A20 := zM A200
         clear A200
         by_cases c21 : 0 < (t228.size : Int)
         ·rw [if_pos c21] at H
          have c21b0 : decide (0 < (t228.size : Int)) = true := decide_eq_true c21
          have c21b1 : decide (0 < t228.size) = true := decide_eq_true (by omega)
          clear c21
          by_cases c23 : 1 < (t228.size : Int)
          ·rw [if_pos c23] at H
           have c23b0 : decide (1 < (t228.size : Int)) = true := decide_eq_true c23
           have c23b1 : decide (1 < t228.size) = true := decide_eq_true (by omega)
           clear c23
           by_cases c25 : (wrap64 ((wrap64 ((wrap64 (bt t228 0)) * 256)) + (wrap64 (bt t228 1)))) > 462
           ·rw [if_pos c25] at H
            have c25b0 : decide (462 < (wrap64 ((wrap64 ((wrap64 (bt t228 0)) * 256)) + (wrap64 (bt t228 1))))) = true := decide_eq_true c25
            clear c25
            simp only [Option.some.injEq, Prod.mk.injEq] at H
            obtain ⟨rfl, rfl, rfl, rfl, rfl⟩ := H
            go_enter Tryd.func13, Tryd.ntmps13
            try go_wp2_with (first | ((with_reducible refine gate_dst (N := 6) rfl ?_); refine box_event ?hg (N := 6) ?hd (cs := #[.int .u32 0, .int .u64 0, .int .u32 0]) (t := 25) ?hr ?_; (case hd => rfl); (case hg => rfl); (case hr => first | (go_simp; done) | (go_simp; rfl)); intro gb211 hg w26 hbox hb; have n0_ := zM (below_step (by repeat (first | (with_reducible first | exact HB.out | apply zL | apply zP | apply zW) | exact HB.out)) hb); have n1_ := zM (hbox); have n2_ := zM ((by rw [hg]; exact (below_size (by repeat (first | (with_reducible first | exact HB.out | apply zL | apply zP | apply zW) | exact HB.out))) : w.heap.size ≤ gb211)); have n3_ := zM ((by rw [hg]; exact (below_size (by repeat (first | (with_reducible first | exact HB.out | apply zL | apply zP | apply zW) | exact HB.out))) : w.heap.size ≤ gb211)); clear HB; have HB := n0_; have BK211 := n1_; have GW211 := n2_; have GE211 := n3_; clear n0_ n1_ n2_ n3_; clear hb hbox hg) | ((with_reducible refine gate_dst (N := 9) rfl ?_); refine box_event ?hg (N := 9) ?hd (cs := #[.string (⟨#[]⟩ : ByteArray), .int .i64 0]) (t := 62) ?hr ?_; (case hd => rfl); (case hg => rfl); (case hr => first | (go_simp; done) | (go_simp; rfl)); intro gb212 hg w27 hbox hb; have n0_ := zM (zB (g := gb211) (o := .cells #[.int .u32 0, .int .u64 0, .int .u32 0] 25 (0, 0)) (by (with_reducible repeat (first | refine zN ?_ _ | refine zD ?_ | refine zA ?_ _)); exact BK211.out) hb); have n1_ := zM (below_step (by repeat (first | (with_reducible first | exact HB.out | apply zL | apply zP | apply zW | refine zS ?_ GE211.out) | exact HB.out)) hb); have n2_ := zM (hbox); have n3_ := zM ((by rw [hg]; exact (below_size (by repeat (first | (with_reducible first | exact HB.out | apply zL | apply zP | apply zW | refine zS ?_ GE211.out) | exact HB.out))) : w.heap.size ≤ gb212)); have n4_ := zM ((by rw [hg]; exact (below_size (by repeat (first | (with_reducible first | exact HB.out | apply zL | apply zP | apply zW | refine zS ?_ GE211.out) | exact HB.out))) : w.heap.size ≤ gb212)); have n5_ := zM ((by rw [hg]; exact Nat.ne_of_lt (blk_lt (g := gb211) (o := .cells #[.int .u32 0, .int .u64 0, .int .u32 0] 25 (0, 0)) (by (with_reducible repeat (first | refine zN ?_ _ | refine zD ?_ | refine zA ?_ _)); exact BK211.out)) : gb211 ≠ gb212)); have n6_ := zM ((by rw [hg]; exact Nat.ne_of_gt (blk_lt (g := gb211) (o := .cells #[.int .u32 0, .int .u64 0, .int .u32 0] 25 (0, 0)) (by (with_reducible repeat (first | refine zN ?_ _ | refine zD ?_ | refine zA ?_ _)); exact BK211.out)) : gb212 ≠ gb211)); clear BK211; clear HB; have BK211 := n0_; have HB := n1_; have BK212 := n2_; have GW212 := n3_; have GE212 := n4_; have NB211_212 := n5_; have NB212_211 := n6_; clear n0_ n1_ n2_ n3_ n4_ n5_ n6_; clear hb hbox hg; have hnb28 := NB212_211.out; have hnc28 := NB211_212.out; have hcz29_0 : w27.cell? ⟨gb212, 0, none⟩ = some (.string (⟨#[]⟩ : ByteArray)) := (zC BK212.out 0).trans rfl; have hcz29_1 : w27.cell? ⟨gb212, 1, none⟩ = some (.int .i64 0) := (zC BK212.out 1).trans rfl; have hfz29_0 := zF BK212.out 0; have hfz29_1 := zF BK212.out 1) | ((with_reducible refine gate_callee (f := 28) rfl ?_); refine goesL_ (some 28) rfl rfl Tryd.func28 (by kernel_rfl) rfl #[.agg #[.string a2, .int .i64 0], .int .i64 4] rfl (by (try simp only [zY, List.map_cons, List.map_nil]); first | done | rfl | (simp only [zV, zX]; rfl)) ?_; (with_reducible refine (lodestoneref04_R_High.calls k a2 0 4 t213 t214 t215 _ A5.out).mono ?_); rintro e w30 ⟨rfl, hb⟩; refine ⟨_, rfl, ?_⟩; have n0_ := zM (zB (g := gb211) (o := .cells #[.int .u32 0, .int .u64 0, .int .u32 0] 25 (0, 0)) (by (with_reducible repeat (first | refine zN ?_ _ | refine zD ?_ | refine zA ?_ _)); refine blk_far ?_ NB211_212.out _; (with_reducible repeat (first | refine zN ?_ _ | refine zD ?_ | refine zA ?_ _)); refine blk_far ?_ NB211_212.out _; (with_reducible repeat (first | refine zN ?_ _ | refine zD ?_ | refine zA ?_ _)); exact BK211.out) hb); have n1_ := zM (zB (g := gb212) (o := .cells #[.string a2, .int .i64 0] 62 (0, 0)) (by (with_reducible repeat (first | refine zN ?_ _ | refine zD ?_ | refine zA ?_ _)); refine blk_put (cs := #[.string a2, .int .i64 0]) ?_ 1 _ rfl; (with_reducible repeat (first | refine zN ?_ _ | refine zD ?_ | refine zA ?_ _)); refine blk_put (cs := #[.string (⟨#[]⟩ : ByteArray), .int .i64 0]) ?_ 0 _ rfl; (with_reducible repeat (first | refine zN ?_ _ | refine zD ?_ | refine zA ?_ _)); exact BK212.out) hb); have n2_ := zM (below_step (by repeat (first | (with_reducible first | exact HB.out | apply zL | apply zP | apply zW | refine zS ?_ GE211.out | refine zS ?_ GE212.out) | exact HB.out)) hb); clear BK211; clear BK212; clear HB; have BK211 := n0_; have BK212 := n1_; have HB := n2_; clear n0_ n1_ n2_; (try clear hb); (try clear hb2); (try clear hk); (try clear hi); have hcz31_0 : w30.cell? ⟨gb212, 0, none⟩ = some (.string a2) := (zC BK212.out 0).trans rfl; have hcz31_1 : w30.cell? ⟨gb212, 1, none⟩ = some (.int .i64 0) := (zC BK212.out 1).trans rfl; have hfz31_0 := zF BK212.out 0; have hfz31_1 := zF BK212.out 1) | ((with_reducible refine gate_callee (f := 28) rfl ?_); refine goesL_ (some 33) rfl rfl Tryd.func28 (by kernel_rfl) rfl #[.agg #[.string t213, .int .i64 t214], .int .i64 8] rfl (by (try simp only [zY, List.map_cons, List.map_nil]); first | done | rfl | (simp only [zV, zX]; rfl)) ?_; (with_reducible refine (lodestoneref04_R_High.calls k t213 t214 8 t216 t217 t218 _ A6.out).mono ?_); rintro e w32 ⟨rfl, hb⟩; refine ⟨_, rfl, ?_⟩; have n0_ := zM (zB (g := gb211) (o := .cells #[.int .u32 0, .int .u64 0, .int .u32 0] 25 (0, 0)) (by (with_reducible repeat (first | refine zN ?_ _ | refine zD ?_ | refine zA ?_ _)); refine blk_far ?_ NB211_212.out _; (with_reducible repeat (first | refine zN ?_ _ | refine zD ?_ | refine zA ?_ _)); refine blk_far ?_ NB211_212.out _; (with_reducible repeat (first | refine zN ?_ _ | refine zD ?_ | refine zA ?_ _)); exact BK211.out) hb); have n1_ := zM (zB (g := gb212) (o := .cells #[.string t213, .int .i64 t214] 62 (0, 0)) (by (with_reducible repeat (first | refine zN ?_ _ | refine zD ?_ | refine zA ?_ _)); refine blk_put (cs := #[.string t213, .int .i64 0]) ?_ 1 _ rfl; (with_reducible repeat (first | refine zN ?_ _ | refine zD ?_ | refine zA ?_ _)); refine blk_put (cs := #[.string a2, .int .i64 0]) ?_ 0 _ rfl; (with_reducible repeat (first | refine zN ?_ _ | refine zD ?_ | refine zA ?_ _)); exact BK212.out) hb); have n2_ := zM (below_step (by repeat (first | (with_reducible first | exact HB.out | apply zL | apply zP | apply zW | refine zS ?_ GE211.out | refine zS ?_ GE212.out) | exact HB.out)) hb); clear BK211; clear BK212; clear HB; have BK211 := n0_; have BK212 := n1_; have HB := n2_; clear n0_ n1_ n2_; (try clear hb); (try clear hb2); (try clear hk); (try clear hi); have hcz33_0 : w32.cell? ⟨gb212, 0, none⟩ = some (.string t213) := (zC BK212.out 0).trans rfl; have hcz33_1 : w32.cell? ⟨gb212, 1, none⟩ = some (.int .i64 t214) := (zC BK212.out 1).trans rfl; have hfz33_0 := zF BK212.out 0; have hfz33_1 := zF BK212.out 1) | ((with_reducible refine gate_callee (f := 28) rfl ?_); refine goesL_ (some 38) rfl rfl Tryd.func28 (by kernel_rfl) rfl #[.agg #[.string t216, .int .i64 t217], .int .i64 4] rfl (by (try simp only [zY, List.map_cons, List.map_nil]); first | done | rfl | (simp only [zV, zX]; rfl)) ?_; (with_reducible refine (lodestoneref04_R_High.calls k t216 t217 4 t219 t220 t221 _ A7.out).mono ?_); rintro e w34 ⟨rfl, hb⟩; refine ⟨_, rfl, ?_⟩; have n0_ := zM (zB (g := gb211) (o := .cells #[.int .u32 0, .int .u64 0, .int .u32 0] 25 (0, 0)) (by (with_reducible repeat (first | refine zN ?_ _ | refine zD ?_ | refine zA ?_ _)); refine blk_far ?_ NB211_212.out _; (with_reducible repeat (first | refine zN ?_ _ | refine zD ?_ | refine zA ?_ _)); refine blk_far ?_ NB211_212.out _; (with_reducible repeat (first | refine zN ?_ _ | refine zD ?_ | refine zA ?_ _)); exact BK211.out) hb); have n1_ := zM (zB (g := gb212) (o := .cells #[.string t216, .int .i64 t217] 62 (0, 0)) (by (with_reducible repeat (first | refine zN ?_ _ | refine zD ?_ | refine zA ?_ _)); refine blk_put (cs := #[.string t216, .int .i64 t214]) ?_ 1 _ rfl; (with_reducible repeat (first | refine zN ?_ _ | refine zD ?_ | refine zA ?_ _)); refine blk_put (cs := #[.string t213, .int .i64 t214]) ?_ 0 _ rfl; (with_reducible repeat (first | refine zN ?_ _ | refine zD ?_ | refine zA ?_ _)); exact BK212.out) hb); have n2_ := zM (below_step (by repeat (first | (with_reducible first | exact HB.out | apply zL | apply zP | apply zW | refine zS ?_ GE211.out | refine zS ?_ GE212.out) | exact HB.out)) hb); clear BK211; clear BK212; clear HB; have BK211 := n0_; have BK212 := n1_; have HB := n2_; clear n0_ n1_ n2_; (try clear hb); (try clear hb2); (try clear hk); (try clear hi)) | ((with_reducible refine gate_dst (N := 12) rfl ?_); refine box_event ?hg (N := 12) ?hd (cs := #[.string (⟨#[]⟩ : ByteArray), .int .i64 0]) (t := 62) ?hr ?_; (case hd => rfl); (case hg => rfl); (case hr => first | (go_simp; done) | (go_simp; rfl)); intro gb222 hg w35 hbox hb; have n0_ := zM (zB (g := gb211) (o := .cells #[.int .u32 0, .int .u64 0, .int .u32 0] 25 (0, 0)) (by (with_reducible repeat (first | refine zN ?_ _ | refine zD ?_ | refine zA ?_ _)); exact BK211.out) hb); have n1_ := zM (zB (g := gb212) (o := .cells #[.string t216, .int .i64 t217] 62 (0, 0)) (by (with_reducible repeat (first | refine zN ?_ _ | refine zD ?_ | refine zA ?_ _)); exact BK212.out) hb); have n2_ := zM (below_step (by repeat (first | (with_reducible first | exact HB.out | apply zL | apply zP | apply zW | refine zS ?_ GE211.out | refine zS ?_ GE212.out) | exact HB.out)) hb); have n3_ := zM (hbox); have n4_ := zM ((by rw [hg]; exact (below_size (by repeat (first | (with_reducible first | exact HB.out | apply zL | apply zP | apply zW | refine zS ?_ GE211.out | refine zS ?_ GE212.out) | exact HB.out))) : w.heap.size ≤ gb222)); have n5_ := zM ((by rw [hg]; exact (below_size (by repeat (first | (with_reducible first | exact HB.out | apply zL | apply zP | apply zW | refine zS ?_ GE211.out | refine zS ?_ GE212.out) | exact HB.out))) : w.heap.size ≤ gb222)); have n6_ := zM ((by rw [hg]; exact Nat.ne_of_lt (blk_lt (g := gb211) (o := .cells #[.int .u32 0, .int .u64 0, .int .u32 0] 25 (0, 0)) (by (with_reducible repeat (first | refine zN ?_ _ | refine zD ?_ | refine zA ?_ _)); exact BK211.out)) : gb211 ≠ gb222)); have n7_ := zM ((by rw [hg]; exact Nat.ne_of_gt (blk_lt (g := gb211) (o := .cells #[.int .u32 0, .int .u64 0, .int .u32 0] 25 (0, 0)) (by (with_reducible repeat (first | refine zN ?_ _ | refine zD ?_ | refine zA ?_ _)); exact BK211.out)) : gb222 ≠ gb211)); have n8_ := zM ((by rw [hg]; exact Nat.ne_of_lt (blk_lt (g := gb212) (o := .cells #[.string t216, .int .i64 t217] 62 (0, 0)) (by (with_reducible repeat (first | refine zN ?_ _ | refine zD ?_ | refine zA ?_ _)); exact BK212.out)) : gb212 ≠ gb222)); have n9_ := zM ((by rw [hg]; exact Nat.ne_of_gt (blk_lt (g := gb212) (o := .cells #[.string t216, .int .i64 t217] 62 (0, 0)) (by (with_reducible repeat (first | refine zN ?_ _ | refine zD ?_ | refine zA ?_ _)); exact BK212.out)) : gb222 ≠ gb212)); clear BK211; clear BK212; clear HB; have BK211 := n0_; have BK212 := n1_; have HB := n2_; have BK222 := n3_; have GW222 := n4_; have GE222 := n5_; have NB211_222 := n6_; have NB222_211 := n7_; have NB212_222 := n8_; have NB222_212 := n9_; clear n0_ n1_ n2_ n3_ n4_ n5_ n6_ n7_ n8_ n9_; clear hb hbox hg; have hnb36 := NB222_211.out; have hnc36 := NB211_222.out; have hnb37 := NB222_212.out; have hnc37 := NB212_222.out; have hcz38_0 : w35.cell? ⟨gb222, 0, none⟩ = some (.string (⟨#[]⟩ : ByteArray)) := (zC BK222.out 0).trans rfl; have hcz38_1 : w35.cell? ⟨gb222, 1, none⟩ = some (.int .i64 0) := (zC BK222.out 1).trans rfl; have hfz38_0 := zF BK222.out 0; have hfz38_1 := zF BK222.out 1) | ((with_reducible refine gate_dst (N := 14) rfl ?_); refine box_event ?hg (N := 14) ?hd (cs := #[.int .u32 0, .int .u64 0, .int .u32 0]) (t := 25) ?hr ?_; (case hd => rfl); (case hg => rfl); (case hr => first | (go_simp; done) | (go_simp; rfl)); intro gb223 hg w39 hbox hb; have n0_ := zM (zB (g := gb211) (o := .cells #[.int .u32 0, .int .u64 0, .int .u32 0] 25 (0, 0)) (by (with_reducible repeat (first | refine zN ?_ _ | refine zD ?_ | refine zA ?_ _)); refine blk_far ?_ NB211_222.out _; (with_reducible repeat (first | refine zN ?_ _ | refine zD ?_ | refine zA ?_ _)); refine blk_far ?_ NB211_222.out _; (with_reducible repeat (first | refine zN ?_ _ | refine zD ?_ | refine zA ?_ _)); exact BK211.out) hb); have n1_ := zM (zB (g := gb212) (o := .cells #[.string t216, .int .i64 t217] 62 (0, 0)) (by (with_reducible repeat (first | refine zN ?_ _ | refine zD ?_ | refine zA ?_ _)); refine blk_far ?_ NB212_222.out _; (with_reducible repeat (first | refine zN ?_ _ | refine zD ?_ | refine zA ?_ _)); refine blk_far ?_ NB212_222.out _; (with_reducible repeat (first | refine zN ?_ _ | refine zD ?_ | refine zA ?_ _)); exact BK212.out) hb); have n2_ := zM (zB (g := gb222) (o := .cells #[.string t219, .int .i64 t220] 62 (0, 0)) (by (with_reducible repeat (first | refine zN ?_ _ | refine zD ?_ | refine zA ?_ _)); refine blk_put (cs := #[.string t219, .int .i64 0]) ?_ 1 _ rfl; (with_reducible repeat (first | refine zN ?_ _ | refine zD ?_ | refine zA ?_ _)); refine blk_put (cs := #[.string (⟨#[]⟩ : ByteArray), .int .i64 0]) ?_ 0 _ rfl; (with_reducible repeat (first | refine zN ?_ _ | refine zD ?_ | refine zA ?_ _)); exact BK222.out) hb); have n3_ := zM (below_step (by repeat (first | (with_reducible first | exact HB.out | apply zL | apply zP | apply zW | refine zS ?_ GE211.out | refine zS ?_ GE212.out | refine zS ?_ GE222.out) | exact HB.out)) hb); have n4_ := zM (hbox); have n5_ := zM ((by rw [hg]; exact (below_size (by repeat (first | (with_reducible first | exact HB.out | apply zL | apply zP | apply zW | refine zS ?_ GE211.out | refine zS ?_ GE212.out | refine zS ?_ GE222.out) | exact HB.out))) : w.heap.size ≤ gb223)); have n6_ := zM ((by rw [hg]; exact (below_size (by repeat (first | (with_reducible first | exact HB.out | apply zL | apply zP | apply zW | refine zS ?_ GE211.out | refine zS ?_ GE212.out | refine zS ?_ GE222.out) | exact HB.out))) : w.heap.size ≤ gb223)); have n7_ := zM ((by rw [hg]; exact Nat.ne_of_lt (blk_lt (g := gb211) (o := .cells #[.int .u32 0, .int .u64 0, .int .u32 0] 25 (0, 0)) (by (with_reducible repeat (first | refine zN ?_ _ | refine zD ?_ | refine zA ?_ _)); refine blk_far ?_ NB211_222.out _; (with_reducible repeat (first | refine zN ?_ _ | refine zD ?_ | refine zA ?_ _)); refine blk_far ?_ NB211_222.out _; (with_reducible repeat (first | refine zN ?_ _ | refine zD ?_ | refine zA ?_ _)); exact BK211.out)) : gb211 ≠ gb223)); have n8_ := zM ((by rw [hg]; exact Nat.ne_of_gt (blk_lt (g := gb211) (o := .cells #[.int .u32 0, .int .u64 0, .int .u32 0] 25 (0, 0)) (by (with_reducible repeat (first | refine zN ?_ _ | refine zD ?_ | refine zA ?_ _)); refine blk_far ?_ NB211_222.out _; (with_reducible repeat (first | refine zN ?_ _ | refine zD ?_ | refine zA ?_ _)); refine blk_far ?_ NB211_222.out _; (with_reducible repeat (first | refine zN ?_ _ | refine zD ?_ | refine zA ?_ _)); exact BK211.out)) : gb223 ≠ gb211)); have n9_ := zM ((by rw [hg]; exact Nat.ne_of_lt (blk_lt (g := gb212) (o := .cells #[.string t216, .int .i64 t217] 62 (0, 0)) (by (with_reducible repeat (first | refine zN ?_ _ | refine zD ?_ | refine zA ?_ _)); refine blk_far ?_ NB212_222.out _; (with_reducible repeat (first | refine zN ?_ _ | refine zD ?_ | refine zA ?_ _)); refine blk_far ?_ NB212_222.out _; (with_reducible repeat (first | refine zN ?_ _ | refine zD ?_ | refine zA ?_ _)); exact BK212.out)) : gb212 ≠ gb223)); have n10_ := zM ((by rw [hg]; exact Nat.ne_of_gt (blk_lt (g := gb212) (o := .cells #[.string t216, .int .i64 t217] 62 (0, 0)) (by (with_reducible repeat (first | refine zN ?_ _ | refine zD ?_ | refine zA ?_ _)); refine blk_far ?_ NB212_222.out _; (with_reducible repeat (first | refine zN ?_ _ | refine zD ?_ | refine zA ?_ _)); refine blk_far ?_ NB212_222.out _; (with_reducible repeat (first | refine zN ?_ _ | refine zD ?_ | refine zA ?_ _)); exact BK212.out)) : gb223 ≠ gb212)); have n11_ := zM ((by rw [hg]; exact Nat.ne_of_lt (blk_lt (g := gb222) (o := .cells #[.string t219, .int .i64 t220] 62 (0, 0)) (by (with_reducible repeat (first | refine zN ?_ _ | refine zD ?_ | refine zA ?_ _)); refine blk_put (cs := #[.string t219, .int .i64 0]) ?_ 1 _ rfl; (with_reducible repeat (first | refine zN ?_ _ | refine zD ?_ | refine zA ?_ _)); refine blk_put (cs := #[.string (⟨#[]⟩ : ByteArray), .int .i64 0]) ?_ 0 _ rfl; (with_reducible repeat (first | refine zN ?_ _ | refine zD ?_ | refine zA ?_ _)); exact BK222.out)) : gb222 ≠ gb223)); have n12_ := zM ((by rw [hg]; exact Nat.ne_of_gt (blk_lt (g := gb222) (o := .cells #[.string t219, .int .i64 t220] 62 (0, 0)) (by (with_reducible repeat (first | refine zN ?_ _ | refine zD ?_ | refine zA ?_ _)); refine blk_put (cs := #[.string t219, .int .i64 0]) ?_ 1 _ rfl; (with_reducible repeat (first | refine zN ?_ _ | refine zD ?_ | refine zA ?_ _)); refine blk_put (cs := #[.string (⟨#[]⟩ : ByteArray), .int .i64 0]) ?_ 0 _ rfl; (with_reducible repeat (first | refine zN ?_ _ | refine zD ?_ | refine zA ?_ _)); exact BK222.out)) : gb223 ≠ gb222)); clear BK211; clear BK212; clear BK222; clear HB; have BK211 := n0_; have BK212 := n1_; have BK222 := n2_; have HB := n3_; have BK223 := n4_; have GW223 := n5_; have GE223 := n6_; have NB211_223 := n7_; have NB223_211 := n8_; have NB212_223 := n9_; have NB223_212 := n10_; have NB222_223 := n11_; have NB223_222 := n12_; clear n0_ n1_ n2_ n3_ n4_ n5_ n6_ n7_ n8_ n9_ n10_ n11_ n12_; clear hb hbox hg; have hnb40 := NB223_211.out; have hnc40 := NB211_223.out; have hnb41 := NB223_212.out; have hnc41 := NB212_223.out; have hnb42 := NB223_222.out; have hnc42 := NB222_223.out; have hcz43_0 : w39.cell? ⟨gb223, 0, none⟩ = some (.int .u32 0) := (zC BK223.out 0).trans rfl; have hcz43_1 : w39.cell? ⟨gb223, 1, none⟩ = some (.int .u64 0) := (zC BK223.out 1).trans rfl; have hcz43_2 : w39.cell? ⟨gb223, 2, none⟩ = some (.int .u32 0) := (zC BK223.out 2).trans rfl; have hfz43_0 := zF BK223.out 0; have hfz43_1 := zF BK223.out 1; have hfz43_2 := zF BK223.out 2) | ((with_reducible refine gate_callee (f := 11) rfl ?_); refine goesL_ (some 51) rfl rfl Tryd.func11 (by kernel_rfl) rfl #[.string a0, .int .u32 ((t215) % 4294967296)] rfl (by (try simp only [zY, List.map_cons, List.map_nil]); first | done | rfl | (simp only [zV, zX]; rfl)) ?_; (with_reducible refine (lodestoneref09_Keys.calls k a0 ((t215) % 4294967296) t224 t225 _ A8.out).mono ?_); rintro e w44 ⟨rfl, hb⟩; refine ⟨_, rfl, ?_⟩; have n0_ := zM (zB (g := gb211) (o := .cells #[.int .u32 0, .int .u64 0, .int .u32 0] 25 (0, 0)) (by (with_reducible repeat (first | refine zN ?_ _ | refine zD ?_ | refine zA ?_ _)); refine blk_far ?_ NB211_223.out _; (with_reducible repeat (first | refine zN ?_ _ | refine zD ?_ | refine zA ?_ _)); refine blk_far ?_ NB211_223.out _; (with_reducible repeat (first | refine zN ?_ _ | refine zD ?_ | refine zA ?_ _)); refine blk_far ?_ NB211_223.out _; (with_reducible repeat (first | refine zN ?_ _ | refine zD ?_ | refine zA ?_ _)); exact BK211.out) hb); have n1_ := zM (zB (g := gb212) (o := .cells #[.string t216, .int .i64 t217] 62 (0, 0)) (by (with_reducible repeat (first | refine zN ?_ _ | refine zD ?_ | refine zA ?_ _)); refine blk_far ?_ NB212_223.out _; (with_reducible repeat (first | refine zN ?_ _ | refine zD ?_ | refine zA ?_ _)); refine blk_far ?_ NB212_223.out _; (with_reducible repeat (first | refine zN ?_ _ | refine zD ?_ | refine zA ?_ _)); refine blk_far ?_ NB212_223.out _; (with_reducible repeat (first | refine zN ?_ _ | refine zD ?_ | refine zA ?_ _)); exact BK212.out) hb); have n2_ := zM (zB (g := gb222) (o := .cells #[.string t219, .int .i64 t220] 62 (0, 0)) (by (with_reducible repeat (first | refine zN ?_ _ | refine zD ?_ | refine zA ?_ _)); refine blk_far ?_ NB222_223.out _; (with_reducible repeat (first | refine zN ?_ _ | refine zD ?_ | refine zA ?_ _)); refine blk_far ?_ NB222_223.out _; (with_reducible repeat (first | refine zN ?_ _ | refine zD ?_ | refine zA ?_ _)); refine blk_far ?_ NB222_223.out _; (with_reducible repeat (first | refine zN ?_ _ | refine zD ?_ | refine zA ?_ _)); exact BK222.out) hb); have n3_ := zM (zB (g := gb223) (o := .cells #[.int .u32 ((t215) % 4294967296), .int .u64 t218, .int .u32 ((t221) % 4294967296)] 25 (0, 0)) (by (with_reducible repeat (first | refine zN ?_ _ | refine zD ?_ | refine zA ?_ _)); refine blk_put (cs := #[.int .u32 ((t215) % 4294967296), .int .u64 t218, .int .u32 0]) ?_ 2 _ rfl; (with_reducible repeat (first | refine zN ?_ _ | refine zD ?_ | refine zA ?_ _)); refine blk_put (cs := #[.int .u32 ((t215) % 4294967296), .int .u64 0, .int .u32 0]) ?_ 1 _ rfl; (with_reducible repeat (first | refine zN ?_ _ | refine zD ?_ | refine zA ?_ _)); refine blk_put (cs := #[.int .u32 0, .int .u64 0, .int .u32 0]) ?_ 0 _ rfl; (with_reducible repeat (first | refine zN ?_ _ | refine zD ?_ | refine zA ?_ _)); exact BK223.out) hb); have n4_ := zM (below_step (by repeat (first | (with_reducible first | exact HB.out | apply zL | apply zP | apply zW | refine zS ?_ GE211.out | refine zS ?_ GE212.out | refine zS ?_ GE222.out | refine zS ?_ GE223.out) | exact HB.out)) hb); clear BK211; clear BK212; clear BK222; clear BK223; clear HB; have BK211 := n0_; have BK212 := n1_; have BK222 := n2_; have BK223 := n3_; have HB := n4_; clear n0_ n1_ n2_ n3_ n4_; (try clear hb); (try clear hb2); (try clear hk); (try clear hi)))
            have n0_ := zM (zD BK211.out)
            have n1_ := zM (zD BK212.out)
            have n2_ := zM (zD BK222.out)
            have n3_ := zM (zD BK223.out)
            have n4_ := zM (zW HB.out)
            clear BK211
            clear BK212
            clear BK222
            clear BK223
            clear HB
            have BK211 := n0_
            have BK212 := n1_
            have BK222 := n2_
            have BK223 := n3_
            have HB := n4_
            clear n0_ n1_ n2_ n3_ n4_
            refine start_ (n := 12) (S := fun w' => True) (ds := []) zb1_12 (by kernel_rfl) rfl rfl trivial (fun hHeld => ?_); refine with_tabW lodestoneref11_Get.tab9 lodestoneref11_Get.bits9 (fun HT_ HW_ => ?_)
            generalize w44.drew = w45 at BK211 BK212 BK222 BK223 HB hHeld ⊢
            refine pure_ (i := 0) (N := some 54) (v := ?_) (a' := ?_) zb1_13 rfl rfl (any_of HT_.out (by kernel_rfl)) (fun _ _ _ h => h) (Or.inl ⟨by rfl, ?_⟩) ?_ ?_
            rotate_left
            ·intro w'
             go_simp
             with_reducible rfl
            rotate_left
            ·simp only [Act.put, zT, zZ, zU, i64_w, i32_w]
             rfl
            refine pure_ (i := 1) (N := some 55) (v := ?_) (a' := ?_) zb1_14 rfl rfl (any_of HT_.out (by kernel_rfl)) (fun _ _ _ h => h) (Or.inl ⟨by rfl, ?_⟩) ?_ ?_
            rotate_left
            ·intro w'
             go_simp
             with_reducible rfl
            rotate_left
            ·simp only [Act.put, zT, zZ, zU, i64_w, i32_w]
             rfl
            refine pure_ (i := 2) (N := some 56) (v := ?_) (a' := ?_) zb1_15 rfl rfl (any_of HT_.out (by kernel_rfl)) (fun _ _ _ h => h) (Or.inl ⟨by rfl, ?_⟩) ?_ ?_
            rotate_left
            ·intro w'
             go_simp
             with_reducible rfl
            rotate_left
            ·simp only [Act.put, zT, zZ, zU, i64_w, i32_w]
             rfl
            refine pure_ (i := 3) (N := some 57) (v := ?_) (a' := ?_) zb1_16 rfl rfl (any_of HT_.out (by kernel_rfl)) (fun _ _ _ h => h) (Or.inl ⟨by rfl, ?_⟩) ?_ ?_
            rotate_left
            ·intro w'
             go_simp
             with_reducible rfl
            rotate_left
            ·simp only [Act.put, zT, zZ, zU, i64_w, i32_w]
             rfl
            refine pure_ (i := 5) (N := some 59) (v := ?_) (a' := ?_) zb1_17 rfl rfl (any_of HT_.out (by kernel_rfl)) (fun _ _ _ h => h) (Or.inl ⟨by rfl, ?_⟩) ?_ ?_
            rotate_left
            ·intro w'
             go_simp
             with_reducible rfl
            rotate_left
            ·simp only [Act.put, zT, zZ, zU, i64_w, i32_w]
             rfl
            refine pure_ (i := 6) (N := some 60) (v := ?_) (a' := ?_) zb1_18 rfl rfl (any_of HT_.out (by kernel_rfl)) (fun _ _ _ h => h) (Or.inl ⟨by rfl, ?_⟩) ?_ ?_
            rotate_left
            ·intro w'
             go_simp
             with_reducible rfl
            rotate_left
            ·simp only [Act.put, zT, zZ, zU, i64_w, i32_w]
             rfl
            refine pure_ (i := 9) (N := some 63) (v := ?_) (a' := ?_) zb1_19 rfl rfl (any_of HT_.out (by kernel_rfl)) (fun _ _ _ h => h) (Or.inl ⟨by rfl, ?_⟩) ?_ ?_
            rotate_left
            ·intro w'
             go_simp
             with_reducible rfl
            rotate_left
            ·simp only [Act.put, zT, zZ, zU, i64_w, i32_w]
             rfl
            refine pure_ (i := 10) (N := some 64) (v := ?_) (a' := ?_) zb1_20 rfl rfl (any_of HT_.out (by kernel_rfl)) (fun _ _ _ h => h) (Or.inl ⟨by rfl, ?_⟩) ?_ ?_
            rotate_left
            ·intro w'
             go_simp
             with_reducible rfl
            rotate_left
            ·simp only [Act.put, zT, zZ, zU, i64_w, i32_w]
             rfl
            refine one_ (i := 4) (N := some 58) zb1_21 rfl rfl (one_of HT_.out (by kernel_rfl)) (by decide) (fun K hK => ?_)
            refine goes_ Tryd.func24 (by kernel_rfl) rfl #[.int .u64 ((a1) % 4294967296), .int .i64 4] (by rfl) rfl rfl (by (try simp only [zY, List.map_cons, List.map_nil]); first | done | rfl | (show #[Value.int IntKind.u64 (IntKind.u64.wrap (a1 % 4294967296)), Value.int IntKind.i64 4] = _; rw [XB.wu64s (by omega) (by omega)]) | (simp only [zV, zX]; rfl)) ?_
            with_reducible refine (lodestoneref04_High.calls k ((a1) % 4294967296) 4 t226 _ A9.out).mono ?_
            rintro e w46 ⟨rfl, hb⟩
            refine ⟨_, rfl, ?_⟩
            have n0_ := zM (zB (g := gb211) (o := .cells #[.int .u32 0, .int .u64 0, .int .u32 0] 25 (0, 0)) (by (with_reducible repeat (first | refine zN ?_ _ | refine zD ?_ | refine zA ?_ _)); exact BK211.out) hb)
            have n1_ := zM (zB (g := gb212) (o := .cells #[.string t216, .int .i64 t217] 62 (0, 0)) (by (with_reducible repeat (first | refine zN ?_ _ | refine zD ?_ | refine zA ?_ _)); exact BK212.out) hb)
            have n2_ := zM (zB (g := gb222) (o := .cells #[.string t219, .int .i64 t220] 62 (0, 0)) (by (with_reducible repeat (first | refine zN ?_ _ | refine zD ?_ | refine zA ?_ _)); exact BK222.out) hb)
            have n3_ := zM (zB (g := gb223) (o := .cells #[.int .u32 ((t215) % 4294967296), .int .u64 t218, .int .u32 ((t221) % 4294967296)] 25 (0, 0)) (by (with_reducible repeat (first | refine zN ?_ _ | refine zD ?_ | refine zA ?_ _)); exact BK223.out) hb)
            have n4_ := zM (below_step (by repeat (first | (with_reducible first | exact HB.out | apply zL | apply zP | apply zW | refine zS ?_ GE211.out | refine zS ?_ GE212.out | refine zS ?_ GE222.out | refine zS ?_ GE223.out) | exact HB.out)) hb)
            clear BK211
            clear BK212
            clear BK222
            clear BK223
            clear HB
            have BK211 := n0_
            have BK212 := n1_
            have BK222 := n2_
            have BK223 := n3_
            have HB := n4_
            clear n0_ n1_ n2_ n3_ n4_
            (try clear hb)
            (try clear hb2)
            (try clear hk)
            (try clear hi)
            refine hK.out _ _ trivial (fun hHeld => ?_)
            clear hK K
            refine norm_ (a' := ?_) ?_ ?_
            rotate_left
            ·show Act.put _ (some 58) _ = _
             simp only [Act.put, zT, zZ, zU, i64_w, i32_w]
             rfl
            refine pure_ (i := 7) (N := some 61) (v := ?_) (a' := ?_) zb1_22 rfl rfl (any_of HT_.out (by kernel_rfl)) (fun _ _ _ h => h) (Or.inl ⟨by rfl, ?_⟩) ?_ ?_
            rotate_left
            ·intro w'
             go_simp
             with_reducible rfl
            rotate_left
            ·simp only [Act.put, zT, zZ, zU, i64_w, i32_w]
             rfl
            refine one_ (i := 8) (N := some 62) zb1_23 rfl rfl (one_of HT_.out (by kernel_rfl)) (by decide) (fun K hK => ?_)
            refine goes_ Tryd.func12 (by kernel_rfl) rfl #[.string t225, .string (t226 ++ (a2.extract 4 480))] (by rfl) rfl rfl (by (try simp only [zY, List.map_cons, List.map_nil]); first | done | rfl | (simp only [zV, zX]; rfl)) ?_
            with_reducible refine (lodestoneref01_Tag.calls t225 (t226 ++ (a2.extract 4 480)) t227 _ A13.out).mono ?_
            rintro e w47 ⟨rfl, hb⟩
            refine ⟨_, rfl, ?_⟩
            have n0_ := zM (zB (g := gb211) (o := .cells #[.int .u32 0, .int .u64 0, .int .u32 0] 25 (0, 0)) (by (with_reducible repeat (first | refine zN ?_ _ | refine zD ?_ | refine zA ?_ _)); exact BK211.out) hb)
            have n1_ := zM (zB (g := gb212) (o := .cells #[.string t216, .int .i64 t217] 62 (0, 0)) (by (with_reducible repeat (first | refine zN ?_ _ | refine zD ?_ | refine zA ?_ _)); exact BK212.out) hb)
            have n2_ := zM (zB (g := gb222) (o := .cells #[.string t219, .int .i64 t220] 62 (0, 0)) (by (with_reducible repeat (first | refine zN ?_ _ | refine zD ?_ | refine zA ?_ _)); exact BK222.out) hb)
            have n3_ := zM (zB (g := gb223) (o := .cells #[.int .u32 ((t215) % 4294967296), .int .u64 t218, .int .u32 ((t221) % 4294967296)] 25 (0, 0)) (by (with_reducible repeat (first | refine zN ?_ _ | refine zD ?_ | refine zA ?_ _)); exact BK223.out) hb)
            have n4_ := zM (below_step (by repeat (first | (with_reducible first | exact HB.out | apply zL | apply zP | apply zW | refine zS ?_ GE211.out | refine zS ?_ GE212.out | refine zS ?_ GE222.out | refine zS ?_ GE223.out) | exact HB.out)) hb)
            clear BK211
            clear BK212
            clear BK222
            clear BK223
            clear HB
            have BK211 := n0_
            have BK212 := n1_
            have BK222 := n2_
            have BK223 := n3_
            have HB := n4_
            clear n0_ n1_ n2_ n3_ n4_
            (try clear hb)
            (try clear hb2)
            (try clear hk)
            (try clear hi)
            refine hK.out _ _ trivial (fun hHeld => ?_)
            clear hK K
            refine norm_ (a' := ?_) ?_ ?_
            rotate_left
            ·show Act.put _ (some 62) _ = _
             simp only [Act.put, zT, zZ, zU, i64_w, i32_w]
             rfl
            refine pure_ (i := 11) (N := some 65) (v := ?_) (a' := ?_) zb1_24 rfl rfl (any_of HT_.out (by kernel_rfl)) (fun _ _ _ h => h) (Or.inl ⟨by rfl, ?_⟩) ?_ ?_
            rotate_left
            ·intro w'
             go_simp
             with_reducible rfl
            rotate_left
            ·simp only [Act.put, zT, zZ, zU, i64_w, i32_w]
             rfl
            refine done_ (done_of HT_.out (by kernel_rfl)) ?_
            try go_wp2
            have n0_ := zM (zD BK211.out)
            have n1_ := zM (zD BK212.out)
            have n2_ := zM (zD BK222.out)
            have n3_ := zM (zD BK223.out)
            have n4_ := zM (zW HB.out)
            clear BK211
            clear BK212
            clear BK222
            clear BK223
            clear HB
            have BK211 := n0_
            have BK212 := n1_
            have BK222 := n2_
            have BK223 := n3_
            have HB := n4_
            clear n0_ n1_ n2_ n3_ n4_
            refine start_ (n := 7) (S := fun w' => True) (ds := []) #[false, false, false, false, false, false, false] (by kernel_rfl) rfl rfl trivial (fun hHeld => ?_)
            generalize w47.drew = w48 at BK211 BK212 BK222 BK223 HB hHeld ⊢
            refine pure_ (i := 0) (N := some 67) (v := ?_) (a' := ?_) #[true, false, false, false, false, false, false] rfl rfl (by kernel_rfl) (fun _ _ _ h => h) (Or.inl ⟨by rfl, ?_⟩) ?_ ?_
            rotate_left
            ·intro w'
             go_simp
             with_reducible rfl
            rotate_left
            ·simp only [Act.put, zT, zZ, zU, i64_w, i32_w]
             rfl
            refine pure_ (i := 1) (N := some 68) (v := ?_) (a' := ?_) #[true, true, false, false, false, false, false] rfl rfl (by kernel_rfl) (fun _ _ _ h => h) (Or.inl ⟨by rfl, ?_⟩) ?_ ?_
            rotate_left
            ·intro w'
             go_simp
             with_reducible rfl
            rotate_left
            ·simp only [Act.put, zT, zZ, zU, i64_w, i32_w]
             rfl
            refine pure_ (i := 2) (N := some 69) (v := ?_) (a' := ?_) #[true, true, true, false, false, false, false] rfl rfl (by kernel_rfl) (fun _ _ _ h => h) (Or.inl ⟨by rfl, ?_⟩) ?_ ?_
            rotate_left
            ·intro w'
             go_simp
             with_reducible rfl
            rotate_left
            ·simp only [Act.put, zT, zZ, zU, i64_w, i32_w]
             rfl
            refine pure_ (i := 3) (N := some 70) (v := ?_) (a' := ?_) #[true, true, true, true, false, false, false] rfl rfl (by kernel_rfl) (fun _ _ _ h => h) (Or.inl ⟨by rfl, ?_⟩) ?_ ?_
            rotate_left
            ·intro w'
             go_simp
             with_reducible rfl
            rotate_left
            ·simp only [Act.put, zT, zZ, zU, i64_w, i32_w]
             rfl
            refine pure_ (i := 4) (N := some 71) (v := ?_) (a' := ?_) #[true, true, true, true, true, false, false] rfl rfl (by kernel_rfl) (fun _ _ _ h => h) (Or.inl ⟨by rfl, ?_⟩) ?_ ?_
            rotate_left
            ·intro w'
             go_simp
             with_reducible rfl
            rotate_left
            ·simp only [Act.put, zT, zZ, zU, i64_w, i32_w]
             rfl
            refine one_ (i := 5) (N := some 72) #[true, true, true, true, true, true, false] rfl rfl (by kernel_rfl) (by decide) (fun K hK => ?_)
            refine goes_ Tryd.func29 (by kernel_rfl) rfl #[.string t224, .string (a2.extract 4 16), .string (a2.extract 16 480)] (by rfl) rfl rfl (by (try simp only [zY, List.map_cons, List.map_nil]); first | done | rfl | (simp only [zV, zX]; rfl)) ?_
            with_reducible refine (lodestoneref03_Turn.calls k t224 (a2.extract 4 16) (a2.extract 16 480) t228 _ A20.out).mono ?_
            rintro e w49 ⟨rfl, hb⟩
            refine ⟨_, rfl, ?_⟩
            have n0_ := zM (zB (g := gb211) (o := .cells #[.int .u32 0, .int .u64 0, .int .u32 0] 25 (0, 0)) (by (with_reducible repeat (first | refine zN ?_ _ | refine zD ?_ | refine zA ?_ _)); exact BK211.out) hb)
            have n1_ := zM (zB (g := gb212) (o := .cells #[.string t216, .int .i64 t217] 62 (0, 0)) (by (with_reducible repeat (first | refine zN ?_ _ | refine zD ?_ | refine zA ?_ _)); exact BK212.out) hb)
            have n2_ := zM (zB (g := gb222) (o := .cells #[.string t219, .int .i64 t220] 62 (0, 0)) (by (with_reducible repeat (first | refine zN ?_ _ | refine zD ?_ | refine zA ?_ _)); exact BK222.out) hb)
            have n3_ := zM (zB (g := gb223) (o := .cells #[.int .u32 ((t215) % 4294967296), .int .u64 t218, .int .u32 ((t221) % 4294967296)] 25 (0, 0)) (by (with_reducible repeat (first | refine zN ?_ _ | refine zD ?_ | refine zA ?_ _)); exact BK223.out) hb)
            have n4_ := zM (below_step (by repeat (first | (with_reducible first | exact HB.out | apply zL | apply zP | apply zW | refine zS ?_ GE211.out | refine zS ?_ GE212.out | refine zS ?_ GE222.out | refine zS ?_ GE223.out) | exact HB.out)) hb)
            clear BK211
            clear BK212
            clear BK222
            clear BK223
            clear HB
            have BK211 := n0_
            have BK212 := n1_
            have BK222 := n2_
            have BK223 := n3_
            have HB := n4_
            clear n0_ n1_ n2_ n3_ n4_
            (try clear hb)
            (try clear hb2)
            (try clear hk)
            (try clear hi)
            refine hK.out _ _ trivial (fun hHeld => ?_)
            clear hK K
            refine norm_ (a' := ?_) ?_ ?_
            rotate_left
            ·show Act.put _ (some 72) _ = _
             simp only [Act.put, zT, zZ, zU, i64_w, i32_w]
             rfl
            refine pure_ (i := 6) (N := some 17) (v := ?_) (a' := ?_) #[true, true, true, true, true, true, true] rfl rfl (by kernel_rfl) (fun _ _ _ h => h) (Or.inl ⟨by rfl, ?_⟩) ?_ ?_
            rotate_left
            ·intro w'
             go_simp
             with_reducible rfl
            rotate_left
            ·simp only [Act.put, zT, zZ, zU, i64_w, i32_w]
             rfl
            refine done_ (by kernel_rfl) ?_
            try go_wp2
            have n0_ := zM (zD BK211.out)
            have n1_ := zM (zD BK212.out)
            have n2_ := zM (zD BK222.out)
            have n3_ := zM (zD BK223.out)
            have n4_ := zM (zW HB.out)
            clear BK211
            clear BK212
            clear BK222
            clear BK223
            clear HB
            have BK211 := n0_
            have BK212 := n1_
            have BK222 := n2_
            have BK223 := n3_
            have HB := n4_
            clear n0_ n1_ n2_ n3_ n4_
            have p22 : 0 ≤ (0 : Int) := (by omega)
            have q22 : 0 < t228.size := (by have : (0 : Int) < (t228.size : Int) := of_decide_eq_true (by first | (with_reducible assumption) | assumption); omega)
            have hx22 : ∀ h : 0 < t228.size, ((t228[0]'h).toNat : Int) = bt t228 0 := bt_at t228 0
            clear p22
            have qi22 : (0 < (t228.size : Int)) = True := eq_true (of_decide_eq_true (by first | (with_reducible assumption) | assumption))
            replace q22 := eq_true q22
            have p24 : 0 ≤ (1 : Int) := (by omega)
            have q24 : 1 < t228.size := (by have : (1 : Int) < (t228.size : Int) := of_decide_eq_true (by first | (with_reducible assumption) | assumption); omega)
            have hx24 : ∀ h : 1 < t228.size, ((t228[1]'h).toNat : Int) = bt t228 1 := bt_at t228 1
            clear p24
            have qi24 : (1 < (t228.size : Int)) = True := eq_true (of_decide_eq_true (by first | (with_reducible assumption) | assumption))
            replace q24 := eq_true q24
            refine start_ (n := 9) (S := fun w' => True) (ds := []) zb1_25 (by kernel_rfl) rfl rfl trivial (fun hHeld => ?_); refine with_tabW lodestoneref11_Get.tab12 lodestoneref11_Get.bits12 (fun HT_ HW_ => ?_)
            generalize w49.drew = w50 at BK211 BK212 BK222 BK223 HB hHeld ⊢
            refine pure_ (i := 0) (N := some 73) (v := ?_) (a' := ?_) zb1_26 rfl rfl (any_of HT_.out (by kernel_rfl)) (fun _ _ _ h => h) (Or.inl ⟨by rfl, ?_⟩) ?_ ?_
            rotate_left
            ·intro w'
             go_simp
             with_reducible rfl
            rotate_left
            ·simp only [Act.put, zT, zZ, zU, i64_w, i32_w]
             rfl
            refine pure_ (i := 4) (N := some 77) (v := ?_) (a' := ?_) zb1_27 rfl rfl (any_of HT_.out (by kernel_rfl)) (fun _ _ _ h => h) (Or.inl ⟨by rfl, ?_⟩) ?_ ?_
            rotate_left
            ·intro w'
             go_simp
             with_reducible rfl
            rotate_left
            ·simp only [Act.put, zT, zZ, zU, i64_w, i32_w]
             rfl
            refine take_ (i := 1) (N := some 74) (v := ?_) (a' := ?_) zb1_28 rfl rfl (take_ofW HT_.out HW_.out (by kernel_rfl)) (fun _ _ _ h => h) (Or.inl ⟨by rfl, ?_⟩) hHeld ?_ ?_
            rotate_left
            ·intro w' _
             go_simp
             with_reducible rfl
            rotate_left
            ·simp only [Act.put, zT, zZ, zU, i64_w, i32_w]
             rfl
            refine pure_ (i := 2) (N := some 75) (v := ?_) (a' := ?_) zb1_29 rfl rfl (any_of HT_.out (by kernel_rfl)) (fun _ _ _ h => h) (Or.inl ⟨by rfl, ?_⟩) ?_ ?_
            rotate_left
            ·intro w'
             go_simp
             with_reducible rfl
            rotate_left
            ·simp only [Act.put, zT, zZ, zU, i64_w, i32_w]
             rfl
            refine pure_ (i := 3) (N := some 76) (v := ?_) (a' := ?_) #[true, true, true, true, true, false, false, false, false] rfl rfl (any_of HT_.out (by kernel_rfl)) (fun _ _ _ h => h) (Or.inl ⟨by rfl, ?_⟩) ?_ ?_
            rotate_left
            ·intro w'
             go_simp
             with_reducible rfl
            rotate_left
            ·simp only [Act.put, zT, zZ, zU, i64_w, i32_w]
             rfl
            refine take_ (i := 5) (N := some 78) (v := ?_) (a' := ?_) #[true, true, true, true, true, true, false, false, false] rfl rfl (take_ofW HT_.out HW_.out (by kernel_rfl)) (fun _ _ _ h => h) (Or.inl ⟨by rfl, ?_⟩) hHeld ?_ ?_
            rotate_left
            ·intro w' _
             go_simp
             with_reducible rfl
            rotate_left
            ·simp only [Act.put, zT, zZ, zU, i64_w, i32_w]
             rfl
            refine pure_ (i := 6) (N := some 79) (v := ?_) (a' := ?_) #[true, true, true, true, true, true, true, false, false] rfl rfl (any_of HT_.out (by kernel_rfl)) (fun _ _ _ h => h) (Or.inl ⟨by rfl, ?_⟩) ?_ ?_
            rotate_left
            ·intro w'
             go_simp
             with_reducible rfl
            rotate_left
            ·simp only [Act.put, zT, zZ, zU, i64_w, i32_w]
             rfl
            refine pure_ (i := 7) (N := some 80) (v := ?_) (a' := ?_) #[true, true, true, true, true, true, true, true, false] rfl rfl (any_of HT_.out (by kernel_rfl)) (fun _ _ _ h => h) (Or.inl ⟨by rfl, ?_⟩) ?_ ?_
            rotate_left
            ·intro w'
             go_simp
             with_reducible rfl
            rotate_left
            ·simp only [Act.put, zT, zZ, zU, i64_w, i32_w]
             rfl
            refine pure_ (i := 8) (N := some 18) (v := ?_) (a' := ?_) #[true, true, true, true, true, true, true, true, true] rfl rfl (any_of HT_.out (by kernel_rfl)) (fun _ _ _ h => h) (Or.inl ⟨by rfl, ?_⟩) ?_ ?_
            rotate_left
            ·intro w'
             go_simp
             with_reducible rfl
            rotate_left
            ·simp only [Act.put, zT, zZ, zU, i64_w, i32_w]
             rfl
            refine done_ (done_of HT_.out (by kernel_rfl)) ?_
            have hcz51_0 : w50.cell? ⟨gb211, 0, none⟩ = some (.int .u32 0) := (zC BK211.out 0).trans rfl
            have hcz51_1 : w50.cell? ⟨gb211, 1, none⟩ = some (.int .u64 0) := (zC BK211.out 1).trans rfl
            have hcz51_2 : w50.cell? ⟨gb211, 2, none⟩ = some (.int .u32 0) := (zC BK211.out 2).trans rfl
            have hfz51_0 := zF BK211.out 0
            have hfz51_1 := zF BK211.out 1
            have hfz51_2 := zF BK211.out 2
            try go_wp2
            refine bodyPost_ret (results_ctt rfl _ _ gb211 25 #[.int .u32 0, .int .u64 0, .int .u32 0] (0, 0) _ rfl (by (with_reducible repeat (first | refine zN ?_ _ | refine zD ?_ | refine zA ?_ _)); refine blk_put (cs := #[.int .u32 0, .int .u64 0, .int .u32 0]) ?_ 2 _ rfl; (with_reducible repeat (first | refine zN ?_ _ | refine zD ?_ | refine zA ?_ _)); refine blk_put (cs := #[.int .u32 0, .int .u64 0, .int .u32 0]) ?_ 1 _ rfl; (with_reducible repeat (first | refine zN ?_ _ | refine zD ?_ | refine zA ?_ _)); refine blk_put (cs := #[.int .u32 0, .int .u64 0, .int .u32 0]) ?_ 0 _ rfl; (with_reducible repeat (first | refine zN ?_ _ | refine zD ?_ | refine zA ?_ _)); exact BK211.out) Tryd.underlying25 rfl (by kernel_rfl)) rfl ?_
            exact ⟨by first | rfl | (simp [errW_none, errW_some] <;> rfl) | (simp [*, errW_none, errW_some] <;> rfl), by repeat (first | (with_reducible first | exact HB.out | apply zL | apply zP | apply zW | refine zS ?_ GE211.out | refine zS ?_ GE212.out | refine zS ?_ GE222.out | refine zS ?_ GE223.out) | exact HB.out)⟩
           ·rw [if_neg c25] at H
            have c25b0 : decide (462 < (wrap64 ((wrap64 ((wrap64 (bt t228 0)) * 256)) + (wrap64 (bt t228 1))))) = false := decide_eq_false c25
            clear c25
            have H' := zM H
            clear H
            go_enter Tryd.func13, Tryd.ntmps13
            try go_wp2_with (first | ((with_reducible refine gate_dst (N := 6) rfl ?_); refine box_event ?hg (N := 6) ?hd (cs := #[.int .u32 0, .int .u64 0, .int .u32 0]) (t := 25) ?hr ?_; (case hd => rfl); (case hg => rfl); (case hr => first | (go_simp; done) | (go_simp; rfl)); intro gb211 hg w52 hbox hb; have n0_ := zM (below_step (by repeat (first | (with_reducible first | exact HB.out | apply zL | apply zP | apply zW) | exact HB.out)) hb); have n1_ := zM (hbox); have n2_ := zM ((by rw [hg]; exact (below_size (by repeat (first | (with_reducible first | exact HB.out | apply zL | apply zP | apply zW) | exact HB.out))) : w.heap.size ≤ gb211)); have n3_ := zM ((by rw [hg]; exact (below_size (by repeat (first | (with_reducible first | exact HB.out | apply zL | apply zP | apply zW) | exact HB.out))) : w.heap.size ≤ gb211)); clear HB; have HB := n0_; have BK211 := n1_; have GW211 := n2_; have GE211 := n3_; clear n0_ n1_ n2_ n3_; clear hb hbox hg) | ((with_reducible refine gate_dst (N := 9) rfl ?_); refine box_event ?hg (N := 9) ?hd (cs := #[.string (⟨#[]⟩ : ByteArray), .int .i64 0]) (t := 62) ?hr ?_; (case hd => rfl); (case hg => rfl); (case hr => first | (go_simp; done) | (go_simp; rfl)); intro gb212 hg w53 hbox hb; have n0_ := zM (zB (g := gb211) (o := .cells #[.int .u32 0, .int .u64 0, .int .u32 0] 25 (0, 0)) (by (with_reducible repeat (first | refine zN ?_ _ | refine zD ?_ | refine zA ?_ _)); exact BK211.out) hb); have n1_ := zM (below_step (by repeat (first | (with_reducible first | exact HB.out | apply zL | apply zP | apply zW | refine zS ?_ GE211.out) | exact HB.out)) hb); have n2_ := zM (hbox); have n3_ := zM ((by rw [hg]; exact (below_size (by repeat (first | (with_reducible first | exact HB.out | apply zL | apply zP | apply zW | refine zS ?_ GE211.out) | exact HB.out))) : w.heap.size ≤ gb212)); have n4_ := zM ((by rw [hg]; exact (below_size (by repeat (first | (with_reducible first | exact HB.out | apply zL | apply zP | apply zW | refine zS ?_ GE211.out) | exact HB.out))) : w.heap.size ≤ gb212)); have n5_ := zM ((by rw [hg]; exact Nat.ne_of_lt (blk_lt (g := gb211) (o := .cells #[.int .u32 0, .int .u64 0, .int .u32 0] 25 (0, 0)) (by (with_reducible repeat (first | refine zN ?_ _ | refine zD ?_ | refine zA ?_ _)); exact BK211.out)) : gb211 ≠ gb212)); have n6_ := zM ((by rw [hg]; exact Nat.ne_of_gt (blk_lt (g := gb211) (o := .cells #[.int .u32 0, .int .u64 0, .int .u32 0] 25 (0, 0)) (by (with_reducible repeat (first | refine zN ?_ _ | refine zD ?_ | refine zA ?_ _)); exact BK211.out)) : gb212 ≠ gb211)); clear BK211; clear HB; have BK211 := n0_; have HB := n1_; have BK212 := n2_; have GW212 := n3_; have GE212 := n4_; have NB211_212 := n5_; have NB212_211 := n6_; clear n0_ n1_ n2_ n3_ n4_ n5_ n6_; clear hb hbox hg; have hnb54 := NB212_211.out; have hnc54 := NB211_212.out; have hcz55_0 : w53.cell? ⟨gb212, 0, none⟩ = some (.string (⟨#[]⟩ : ByteArray)) := (zC BK212.out 0).trans rfl; have hcz55_1 : w53.cell? ⟨gb212, 1, none⟩ = some (.int .i64 0) := (zC BK212.out 1).trans rfl; have hfz55_0 := zF BK212.out 0; have hfz55_1 := zF BK212.out 1) | ((with_reducible refine gate_callee (f := 28) rfl ?_); refine goesL_ (some 28) rfl rfl Tryd.func28 (by kernel_rfl) rfl #[.agg #[.string a2, .int .i64 0], .int .i64 4] rfl (by (try simp only [zY, List.map_cons, List.map_nil]); first | done | rfl | (simp only [zV, zX]; rfl)) ?_; (with_reducible refine (lodestoneref04_R_High.calls k a2 0 4 t213 t214 t215 _ A5.out).mono ?_); rintro e w56 ⟨rfl, hb⟩; refine ⟨_, rfl, ?_⟩; have n0_ := zM (zB (g := gb211) (o := .cells #[.int .u32 0, .int .u64 0, .int .u32 0] 25 (0, 0)) (by (with_reducible repeat (first | refine zN ?_ _ | refine zD ?_ | refine zA ?_ _)); refine blk_far ?_ NB211_212.out _; (with_reducible repeat (first | refine zN ?_ _ | refine zD ?_ | refine zA ?_ _)); refine blk_far ?_ NB211_212.out _; (with_reducible repeat (first | refine zN ?_ _ | refine zD ?_ | refine zA ?_ _)); exact BK211.out) hb); have n1_ := zM (zB (g := gb212) (o := .cells #[.string a2, .int .i64 0] 62 (0, 0)) (by (with_reducible repeat (first | refine zN ?_ _ | refine zD ?_ | refine zA ?_ _)); refine blk_put (cs := #[.string a2, .int .i64 0]) ?_ 1 _ rfl; (with_reducible repeat (first | refine zN ?_ _ | refine zD ?_ | refine zA ?_ _)); refine blk_put (cs := #[.string (⟨#[]⟩ : ByteArray), .int .i64 0]) ?_ 0 _ rfl; (with_reducible repeat (first | refine zN ?_ _ | refine zD ?_ | refine zA ?_ _)); exact BK212.out) hb); have n2_ := zM (below_step (by repeat (first | (with_reducible first | exact HB.out | apply zL | apply zP | apply zW | refine zS ?_ GE211.out | refine zS ?_ GE212.out) | exact HB.out)) hb); clear BK211; clear BK212; clear HB; have BK211 := n0_; have BK212 := n1_; have HB := n2_; clear n0_ n1_ n2_; (try clear hb); (try clear hb2); (try clear hk); (try clear hi); have hcz57_0 : w56.cell? ⟨gb212, 0, none⟩ = some (.string a2) := (zC BK212.out 0).trans rfl; have hcz57_1 : w56.cell? ⟨gb212, 1, none⟩ = some (.int .i64 0) := (zC BK212.out 1).trans rfl; have hfz57_0 := zF BK212.out 0; have hfz57_1 := zF BK212.out 1) | ((with_reducible refine gate_callee (f := 28) rfl ?_); refine goesL_ (some 33) rfl rfl Tryd.func28 (by kernel_rfl) rfl #[.agg #[.string t213, .int .i64 t214], .int .i64 8] rfl (by (try simp only [zY, List.map_cons, List.map_nil]); first | done | rfl | (simp only [zV, zX]; rfl)) ?_; (with_reducible refine (lodestoneref04_R_High.calls k t213 t214 8 t216 t217 t218 _ A6.out).mono ?_); rintro e w58 ⟨rfl, hb⟩; refine ⟨_, rfl, ?_⟩; have n0_ := zM (zB (g := gb211) (o := .cells #[.int .u32 0, .int .u64 0, .int .u32 0] 25 (0, 0)) (by (with_reducible repeat (first | refine zN ?_ _ | refine zD ?_ | refine zA ?_ _)); refine blk_far ?_ NB211_212.out _; (with_reducible repeat (first | refine zN ?_ _ | refine zD ?_ | refine zA ?_ _)); refine blk_far ?_ NB211_212.out _; (with_reducible repeat (first | refine zN ?_ _ | refine zD ?_ | refine zA ?_ _)); exact BK211.out) hb); have n1_ := zM (zB (g := gb212) (o := .cells #[.string t213, .int .i64 t214] 62 (0, 0)) (by (with_reducible repeat (first | refine zN ?_ _ | refine zD ?_ | refine zA ?_ _)); refine blk_put (cs := #[.string t213, .int .i64 0]) ?_ 1 _ rfl; (with_reducible repeat (first | refine zN ?_ _ | refine zD ?_ | refine zA ?_ _)); refine blk_put (cs := #[.string a2, .int .i64 0]) ?_ 0 _ rfl; (with_reducible repeat (first | refine zN ?_ _ | refine zD ?_ | refine zA ?_ _)); exact BK212.out) hb); have n2_ := zM (below_step (by repeat (first | (with_reducible first | exact HB.out | apply zL | apply zP | apply zW | refine zS ?_ GE211.out | refine zS ?_ GE212.out) | exact HB.out)) hb); clear BK211; clear BK212; clear HB; have BK211 := n0_; have BK212 := n1_; have HB := n2_; clear n0_ n1_ n2_; (try clear hb); (try clear hb2); (try clear hk); (try clear hi); have hcz59_0 : w58.cell? ⟨gb212, 0, none⟩ = some (.string t213) := (zC BK212.out 0).trans rfl; have hcz59_1 : w58.cell? ⟨gb212, 1, none⟩ = some (.int .i64 t214) := (zC BK212.out 1).trans rfl; have hfz59_0 := zF BK212.out 0; have hfz59_1 := zF BK212.out 1) | ((with_reducible refine gate_callee (f := 28) rfl ?_); refine goesL_ (some 38) rfl rfl Tryd.func28 (by kernel_rfl) rfl #[.agg #[.string t216, .int .i64 t217], .int .i64 4] rfl (by (try simp only [zY, List.map_cons, List.map_nil]); first | done | rfl | (simp only [zV, zX]; rfl)) ?_; (with_reducible refine (lodestoneref04_R_High.calls k t216 t217 4 t219 t220 t221 _ A7.out).mono ?_); rintro e w60 ⟨rfl, hb⟩; refine ⟨_, rfl, ?_⟩; have n0_ := zM (zB (g := gb211) (o := .cells #[.int .u32 0, .int .u64 0, .int .u32 0] 25 (0, 0)) (by (with_reducible repeat (first | refine zN ?_ _ | refine zD ?_ | refine zA ?_ _)); refine blk_far ?_ NB211_212.out _; (with_reducible repeat (first | refine zN ?_ _ | refine zD ?_ | refine zA ?_ _)); refine blk_far ?_ NB211_212.out _; (with_reducible repeat (first | refine zN ?_ _ | refine zD ?_ | refine zA ?_ _)); exact BK211.out) hb); have n1_ := zM (zB (g := gb212) (o := .cells #[.string t216, .int .i64 t217] 62 (0, 0)) (by (with_reducible repeat (first | refine zN ?_ _ | refine zD ?_ | refine zA ?_ _)); refine blk_put (cs := #[.string t216, .int .i64 t214]) ?_ 1 _ rfl; (with_reducible repeat (first | refine zN ?_ _ | refine zD ?_ | refine zA ?_ _)); refine blk_put (cs := #[.string t213, .int .i64 t214]) ?_ 0 _ rfl; (with_reducible repeat (first | refine zN ?_ _ | refine zD ?_ | refine zA ?_ _)); exact BK212.out) hb); have n2_ := zM (below_step (by repeat (first | (with_reducible first | exact HB.out | apply zL | apply zP | apply zW | refine zS ?_ GE211.out | refine zS ?_ GE212.out) | exact HB.out)) hb); clear BK211; clear BK212; clear HB; have BK211 := n0_; have BK212 := n1_; have HB := n2_; clear n0_ n1_ n2_; (try clear hb); (try clear hb2); (try clear hk); (try clear hi)) | ((with_reducible refine gate_dst (N := 12) rfl ?_); refine box_event ?hg (N := 12) ?hd (cs := #[.string (⟨#[]⟩ : ByteArray), .int .i64 0]) (t := 62) ?hr ?_; (case hd => rfl); (case hg => rfl); (case hr => first | (go_simp; done) | (go_simp; rfl)); intro gb222 hg w61 hbox hb; have n0_ := zM (zB (g := gb211) (o := .cells #[.int .u32 0, .int .u64 0, .int .u32 0] 25 (0, 0)) (by (with_reducible repeat (first | refine zN ?_ _ | refine zD ?_ | refine zA ?_ _)); exact BK211.out) hb); have n1_ := zM (zB (g := gb212) (o := .cells #[.string t216, .int .i64 t217] 62 (0, 0)) (by (with_reducible repeat (first | refine zN ?_ _ | refine zD ?_ | refine zA ?_ _)); exact BK212.out) hb); have n2_ := zM (below_step (by repeat (first | (with_reducible first | exact HB.out | apply zL | apply zP | apply zW | refine zS ?_ GE211.out | refine zS ?_ GE212.out) | exact HB.out)) hb); have n3_ := zM (hbox); have n4_ := zM ((by rw [hg]; exact (below_size (by repeat (first | (with_reducible first | exact HB.out | apply zL | apply zP | apply zW | refine zS ?_ GE211.out | refine zS ?_ GE212.out) | exact HB.out))) : w.heap.size ≤ gb222)); have n5_ := zM ((by rw [hg]; exact (below_size (by repeat (first | (with_reducible first | exact HB.out | apply zL | apply zP | apply zW | refine zS ?_ GE211.out | refine zS ?_ GE212.out) | exact HB.out))) : w.heap.size ≤ gb222)); have n6_ := zM ((by rw [hg]; exact Nat.ne_of_lt (blk_lt (g := gb211) (o := .cells #[.int .u32 0, .int .u64 0, .int .u32 0] 25 (0, 0)) (by (with_reducible repeat (first | refine zN ?_ _ | refine zD ?_ | refine zA ?_ _)); exact BK211.out)) : gb211 ≠ gb222)); have n7_ := zM ((by rw [hg]; exact Nat.ne_of_gt (blk_lt (g := gb211) (o := .cells #[.int .u32 0, .int .u64 0, .int .u32 0] 25 (0, 0)) (by (with_reducible repeat (first | refine zN ?_ _ | refine zD ?_ | refine zA ?_ _)); exact BK211.out)) : gb222 ≠ gb211)); have n8_ := zM ((by rw [hg]; exact Nat.ne_of_lt (blk_lt (g := gb212) (o := .cells #[.string t216, .int .i64 t217] 62 (0, 0)) (by (with_reducible repeat (first | refine zN ?_ _ | refine zD ?_ | refine zA ?_ _)); exact BK212.out)) : gb212 ≠ gb222)); have n9_ := zM ((by rw [hg]; exact Nat.ne_of_gt (blk_lt (g := gb212) (o := .cells #[.string t216, .int .i64 t217] 62 (0, 0)) (by (with_reducible repeat (first | refine zN ?_ _ | refine zD ?_ | refine zA ?_ _)); exact BK212.out)) : gb222 ≠ gb212)); clear BK211; clear BK212; clear HB; have BK211 := n0_; have BK212 := n1_; have HB := n2_; have BK222 := n3_; have GW222 := n4_; have GE222 := n5_; have NB211_222 := n6_; have NB222_211 := n7_; have NB212_222 := n8_; have NB222_212 := n9_; clear n0_ n1_ n2_ n3_ n4_ n5_ n6_ n7_ n8_ n9_; clear hb hbox hg; have hnb62 := NB222_211.out; have hnc62 := NB211_222.out; have hnb63 := NB222_212.out; have hnc63 := NB212_222.out; have hcz64_0 : w61.cell? ⟨gb222, 0, none⟩ = some (.string (⟨#[]⟩ : ByteArray)) := (zC BK222.out 0).trans rfl; have hcz64_1 : w61.cell? ⟨gb222, 1, none⟩ = some (.int .i64 0) := (zC BK222.out 1).trans rfl; have hfz64_0 := zF BK222.out 0; have hfz64_1 := zF BK222.out 1) | ((with_reducible refine gate_dst (N := 14) rfl ?_); refine box_event ?hg (N := 14) ?hd (cs := #[.int .u32 0, .int .u64 0, .int .u32 0]) (t := 25) ?hr ?_; (case hd => rfl); (case hg => rfl); (case hr => first | (go_simp; done) | (go_simp; rfl)); intro gb223 hg w65 hbox hb; have n0_ := zM (zB (g := gb211) (o := .cells #[.int .u32 0, .int .u64 0, .int .u32 0] 25 (0, 0)) (by (with_reducible repeat (first | refine zN ?_ _ | refine zD ?_ | refine zA ?_ _)); refine blk_far ?_ NB211_222.out _; (with_reducible repeat (first | refine zN ?_ _ | refine zD ?_ | refine zA ?_ _)); refine blk_far ?_ NB211_222.out _; (with_reducible repeat (first | refine zN ?_ _ | refine zD ?_ | refine zA ?_ _)); exact BK211.out) hb); have n1_ := zM (zB (g := gb212) (o := .cells #[.string t216, .int .i64 t217] 62 (0, 0)) (by (with_reducible repeat (first | refine zN ?_ _ | refine zD ?_ | refine zA ?_ _)); refine blk_far ?_ NB212_222.out _; (with_reducible repeat (first | refine zN ?_ _ | refine zD ?_ | refine zA ?_ _)); refine blk_far ?_ NB212_222.out _; (with_reducible repeat (first | refine zN ?_ _ | refine zD ?_ | refine zA ?_ _)); exact BK212.out) hb); have n2_ := zM (zB (g := gb222) (o := .cells #[.string t219, .int .i64 t220] 62 (0, 0)) (by (with_reducible repeat (first | refine zN ?_ _ | refine zD ?_ | refine zA ?_ _)); refine blk_put (cs := #[.string t219, .int .i64 0]) ?_ 1 _ rfl; (with_reducible repeat (first | refine zN ?_ _ | refine zD ?_ | refine zA ?_ _)); refine blk_put (cs := #[.string (⟨#[]⟩ : ByteArray), .int .i64 0]) ?_ 0 _ rfl; (with_reducible repeat (first | refine zN ?_ _ | refine zD ?_ | refine zA ?_ _)); exact BK222.out) hb); have n3_ := zM (below_step (by repeat (first | (with_reducible first | exact HB.out | apply zL | apply zP | apply zW | refine zS ?_ GE211.out | refine zS ?_ GE212.out | refine zS ?_ GE222.out) | exact HB.out)) hb); have n4_ := zM (hbox); have n5_ := zM ((by rw [hg]; exact (below_size (by repeat (first | (with_reducible first | exact HB.out | apply zL | apply zP | apply zW | refine zS ?_ GE211.out | refine zS ?_ GE212.out | refine zS ?_ GE222.out) | exact HB.out))) : w.heap.size ≤ gb223)); have n6_ := zM ((by rw [hg]; exact (below_size (by repeat (first | (with_reducible first | exact HB.out | apply zL | apply zP | apply zW | refine zS ?_ GE211.out | refine zS ?_ GE212.out | refine zS ?_ GE222.out) | exact HB.out))) : w.heap.size ≤ gb223)); have n7_ := zM ((by rw [hg]; exact Nat.ne_of_lt (blk_lt (g := gb211) (o := .cells #[.int .u32 0, .int .u64 0, .int .u32 0] 25 (0, 0)) (by (with_reducible repeat (first | refine zN ?_ _ | refine zD ?_ | refine zA ?_ _)); refine blk_far ?_ NB211_222.out _; (with_reducible repeat (first | refine zN ?_ _ | refine zD ?_ | refine zA ?_ _)); refine blk_far ?_ NB211_222.out _; (with_reducible repeat (first | refine zN ?_ _ | refine zD ?_ | refine zA ?_ _)); exact BK211.out)) : gb211 ≠ gb223)); have n8_ := zM ((by rw [hg]; exact Nat.ne_of_gt (blk_lt (g := gb211) (o := .cells #[.int .u32 0, .int .u64 0, .int .u32 0] 25 (0, 0)) (by (with_reducible repeat (first | refine zN ?_ _ | refine zD ?_ | refine zA ?_ _)); refine blk_far ?_ NB211_222.out _; (with_reducible repeat (first | refine zN ?_ _ | refine zD ?_ | refine zA ?_ _)); refine blk_far ?_ NB211_222.out _; (with_reducible repeat (first | refine zN ?_ _ | refine zD ?_ | refine zA ?_ _)); exact BK211.out)) : gb223 ≠ gb211)); have n9_ := zM ((by rw [hg]; exact Nat.ne_of_lt (blk_lt (g := gb212) (o := .cells #[.string t216, .int .i64 t217] 62 (0, 0)) (by (with_reducible repeat (first | refine zN ?_ _ | refine zD ?_ | refine zA ?_ _)); refine blk_far ?_ NB212_222.out _; (with_reducible repeat (first | refine zN ?_ _ | refine zD ?_ | refine zA ?_ _)); refine blk_far ?_ NB212_222.out _; (with_reducible repeat (first | refine zN ?_ _ | refine zD ?_ | refine zA ?_ _)); exact BK212.out)) : gb212 ≠ gb223)); have n10_ := zM ((by rw [hg]; exact Nat.ne_of_gt (blk_lt (g := gb212) (o := .cells #[.string t216, .int .i64 t217] 62 (0, 0)) (by (with_reducible repeat (first | refine zN ?_ _ | refine zD ?_ | refine zA ?_ _)); refine blk_far ?_ NB212_222.out _; (with_reducible repeat (first | refine zN ?_ _ | refine zD ?_ | refine zA ?_ _)); refine blk_far ?_ NB212_222.out _; (with_reducible repeat (first | refine zN ?_ _ | refine zD ?_ | refine zA ?_ _)); exact BK212.out)) : gb223 ≠ gb212)); have n11_ := zM ((by rw [hg]; exact Nat.ne_of_lt (blk_lt (g := gb222) (o := .cells #[.string t219, .int .i64 t220] 62 (0, 0)) (by (with_reducible repeat (first | refine zN ?_ _ | refine zD ?_ | refine zA ?_ _)); refine blk_put (cs := #[.string t219, .int .i64 0]) ?_ 1 _ rfl; (with_reducible repeat (first | refine zN ?_ _ | refine zD ?_ | refine zA ?_ _)); refine blk_put (cs := #[.string (⟨#[]⟩ : ByteArray), .int .i64 0]) ?_ 0 _ rfl; (with_reducible repeat (first | refine zN ?_ _ | refine zD ?_ | refine zA ?_ _)); exact BK222.out)) : gb222 ≠ gb223)); have n12_ := zM ((by rw [hg]; exact Nat.ne_of_gt (blk_lt (g := gb222) (o := .cells #[.string t219, .int .i64 t220] 62 (0, 0)) (by (with_reducible repeat (first | refine zN ?_ _ | refine zD ?_ | refine zA ?_ _)); refine blk_put (cs := #[.string t219, .int .i64 0]) ?_ 1 _ rfl; (with_reducible repeat (first | refine zN ?_ _ | refine zD ?_ | refine zA ?_ _)); refine blk_put (cs := #[.string (⟨#[]⟩ : ByteArray), .int .i64 0]) ?_ 0 _ rfl; (with_reducible repeat (first | refine zN ?_ _ | refine zD ?_ | refine zA ?_ _)); exact BK222.out)) : gb223 ≠ gb222)); clear BK211; clear BK212; clear BK222; clear HB; have BK211 := n0_; have BK212 := n1_; have BK222 := n2_; have HB := n3_; have BK223 := n4_; have GW223 := n5_; have GE223 := n6_; have NB211_223 := n7_; have NB223_211 := n8_; have NB212_223 := n9_; have NB223_212 := n10_; have NB222_223 := n11_; have NB223_222 := n12_; clear n0_ n1_ n2_ n3_ n4_ n5_ n6_ n7_ n8_ n9_ n10_ n11_ n12_; clear hb hbox hg; have hnb66 := NB223_211.out; have hnc66 := NB211_223.out; have hnb67 := NB223_212.out; have hnc67 := NB212_223.out; have hnb68 := NB223_222.out; have hnc68 := NB222_223.out; have hcz69_0 : w65.cell? ⟨gb223, 0, none⟩ = some (.int .u32 0) := (zC BK223.out 0).trans rfl; have hcz69_1 : w65.cell? ⟨gb223, 1, none⟩ = some (.int .u64 0) := (zC BK223.out 1).trans rfl; have hcz69_2 : w65.cell? ⟨gb223, 2, none⟩ = some (.int .u32 0) := (zC BK223.out 2).trans rfl; have hfz69_0 := zF BK223.out 0; have hfz69_1 := zF BK223.out 1; have hfz69_2 := zF BK223.out 2) | ((with_reducible refine gate_callee (f := 11) rfl ?_); refine goesL_ (some 51) rfl rfl Tryd.func11 (by kernel_rfl) rfl #[.string a0, .int .u32 ((t215) % 4294967296)] rfl (by (try simp only [zY, List.map_cons, List.map_nil]); first | done | rfl | (simp only [zV, zX]; rfl)) ?_; (with_reducible refine (lodestoneref09_Keys.calls k a0 ((t215) % 4294967296) t224 t225 _ A8.out).mono ?_); rintro e w70 ⟨rfl, hb⟩; refine ⟨_, rfl, ?_⟩; have n0_ := zM (zB (g := gb211) (o := .cells #[.int .u32 0, .int .u64 0, .int .u32 0] 25 (0, 0)) (by (with_reducible repeat (first | refine zN ?_ _ | refine zD ?_ | refine zA ?_ _)); refine blk_far ?_ NB211_223.out _; (with_reducible repeat (first | refine zN ?_ _ | refine zD ?_ | refine zA ?_ _)); refine blk_far ?_ NB211_223.out _; (with_reducible repeat (first | refine zN ?_ _ | refine zD ?_ | refine zA ?_ _)); refine blk_far ?_ NB211_223.out _; (with_reducible repeat (first | refine zN ?_ _ | refine zD ?_ | refine zA ?_ _)); exact BK211.out) hb); have n1_ := zM (zB (g := gb212) (o := .cells #[.string t216, .int .i64 t217] 62 (0, 0)) (by (with_reducible repeat (first | refine zN ?_ _ | refine zD ?_ | refine zA ?_ _)); refine blk_far ?_ NB212_223.out _; (with_reducible repeat (first | refine zN ?_ _ | refine zD ?_ | refine zA ?_ _)); refine blk_far ?_ NB212_223.out _; (with_reducible repeat (first | refine zN ?_ _ | refine zD ?_ | refine zA ?_ _)); refine blk_far ?_ NB212_223.out _; (with_reducible repeat (first | refine zN ?_ _ | refine zD ?_ | refine zA ?_ _)); exact BK212.out) hb); have n2_ := zM (zB (g := gb222) (o := .cells #[.string t219, .int .i64 t220] 62 (0, 0)) (by (with_reducible repeat (first | refine zN ?_ _ | refine zD ?_ | refine zA ?_ _)); refine blk_far ?_ NB222_223.out _; (with_reducible repeat (first | refine zN ?_ _ | refine zD ?_ | refine zA ?_ _)); refine blk_far ?_ NB222_223.out _; (with_reducible repeat (first | refine zN ?_ _ | refine zD ?_ | refine zA ?_ _)); refine blk_far ?_ NB222_223.out _; (with_reducible repeat (first | refine zN ?_ _ | refine zD ?_ | refine zA ?_ _)); exact BK222.out) hb); have n3_ := zM (zB (g := gb223) (o := .cells #[.int .u32 ((t215) % 4294967296), .int .u64 t218, .int .u32 ((t221) % 4294967296)] 25 (0, 0)) (by (with_reducible repeat (first | refine zN ?_ _ | refine zD ?_ | refine zA ?_ _)); refine blk_put (cs := #[.int .u32 ((t215) % 4294967296), .int .u64 t218, .int .u32 0]) ?_ 2 _ rfl; (with_reducible repeat (first | refine zN ?_ _ | refine zD ?_ | refine zA ?_ _)); refine blk_put (cs := #[.int .u32 ((t215) % 4294967296), .int .u64 0, .int .u32 0]) ?_ 1 _ rfl; (with_reducible repeat (first | refine zN ?_ _ | refine zD ?_ | refine zA ?_ _)); refine blk_put (cs := #[.int .u32 0, .int .u64 0, .int .u32 0]) ?_ 0 _ rfl; (with_reducible repeat (first | refine zN ?_ _ | refine zD ?_ | refine zA ?_ _)); exact BK223.out) hb); have n4_ := zM (below_step (by repeat (first | (with_reducible first | exact HB.out | apply zL | apply zP | apply zW | refine zS ?_ GE211.out | refine zS ?_ GE212.out | refine zS ?_ GE222.out | refine zS ?_ GE223.out) | exact HB.out)) hb); clear BK211; clear BK212; clear BK222; clear BK223; clear HB; have BK211 := n0_; have BK212 := n1_; have BK222 := n2_; have BK223 := n3_; have HB := n4_; clear n0_ n1_ n2_ n3_ n4_; (try clear hb); (try clear hb2); (try clear hk); (try clear hi)))
            have n0_ := zM (zD BK211.out)
            have n1_ := zM (zD BK212.out)
            have n2_ := zM (zD BK222.out)
            have n3_ := zM (zD BK223.out)
            have n4_ := zM (zW HB.out)
            clear BK211
            clear BK212
            clear BK222
            clear BK223
            clear HB
            have BK211 := n0_
            have BK212 := n1_
            have BK222 := n2_
            have BK223 := n3_
            have HB := n4_
            clear n0_ n1_ n2_ n3_ n4_
            refine start_ (n := 12) (S := fun w' => True) (ds := []) zb1_12 (by kernel_rfl) rfl rfl trivial (fun hHeld => ?_); refine with_tabW lodestoneref11_Get.tab9 lodestoneref11_Get.bits9 (fun HT_ HW_ => ?_)
            generalize w70.drew = w71 at BK211 BK212 BK222 BK223 HB hHeld ⊢
            refine pure_ (i := 0) (N := some 54) (v := ?_) (a' := ?_) zb1_13 rfl rfl (any_of HT_.out (by kernel_rfl)) (fun _ _ _ h => h) (Or.inl ⟨by rfl, ?_⟩) ?_ ?_
            rotate_left
            ·intro w'
             go_simp
             with_reducible rfl
            rotate_left
            ·simp only [Act.put, zT, zZ, zU, i64_w, i32_w]
             rfl
            refine pure_ (i := 1) (N := some 55) (v := ?_) (a' := ?_) zb1_14 rfl rfl (any_of HT_.out (by kernel_rfl)) (fun _ _ _ h => h) (Or.inl ⟨by rfl, ?_⟩) ?_ ?_
            rotate_left
            ·intro w'
             go_simp
             with_reducible rfl
            rotate_left
            ·simp only [Act.put, zT, zZ, zU, i64_w, i32_w]
             rfl
            refine pure_ (i := 2) (N := some 56) (v := ?_) (a' := ?_) zb1_15 rfl rfl (any_of HT_.out (by kernel_rfl)) (fun _ _ _ h => h) (Or.inl ⟨by rfl, ?_⟩) ?_ ?_
            rotate_left
            ·intro w'
             go_simp
             with_reducible rfl
            rotate_left
            ·simp only [Act.put, zT, zZ, zU, i64_w, i32_w]
             rfl
            refine pure_ (i := 3) (N := some 57) (v := ?_) (a' := ?_) zb1_16 rfl rfl (any_of HT_.out (by kernel_rfl)) (fun _ _ _ h => h) (Or.inl ⟨by rfl, ?_⟩) ?_ ?_
            rotate_left
            ·intro w'
             go_simp
             with_reducible rfl
            rotate_left
            ·simp only [Act.put, zT, zZ, zU, i64_w, i32_w]
             rfl
            refine pure_ (i := 5) (N := some 59) (v := ?_) (a' := ?_) zb1_17 rfl rfl (any_of HT_.out (by kernel_rfl)) (fun _ _ _ h => h) (Or.inl ⟨by rfl, ?_⟩) ?_ ?_
            rotate_left
            ·intro w'
             go_simp
             with_reducible rfl
            rotate_left
            ·simp only [Act.put, zT, zZ, zU, i64_w, i32_w]
             rfl
            refine pure_ (i := 6) (N := some 60) (v := ?_) (a' := ?_) zb1_18 rfl rfl (any_of HT_.out (by kernel_rfl)) (fun _ _ _ h => h) (Or.inl ⟨by rfl, ?_⟩) ?_ ?_
            rotate_left
            ·intro w'
             go_simp
             with_reducible rfl
            rotate_left
            ·simp only [Act.put, zT, zZ, zU, i64_w, i32_w]
             rfl
            refine pure_ (i := 9) (N := some 63) (v := ?_) (a' := ?_) zb1_19 rfl rfl (any_of HT_.out (by kernel_rfl)) (fun _ _ _ h => h) (Or.inl ⟨by rfl, ?_⟩) ?_ ?_
            rotate_left
            ·intro w'
             go_simp
             with_reducible rfl
            rotate_left
            ·simp only [Act.put, zT, zZ, zU, i64_w, i32_w]
             rfl
            refine pure_ (i := 10) (N := some 64) (v := ?_) (a' := ?_) zb1_20 rfl rfl (any_of HT_.out (by kernel_rfl)) (fun _ _ _ h => h) (Or.inl ⟨by rfl, ?_⟩) ?_ ?_
            rotate_left
            ·intro w'
             go_simp
             with_reducible rfl
            rotate_left
            ·simp only [Act.put, zT, zZ, zU, i64_w, i32_w]
             rfl
            refine one_ (i := 4) (N := some 58) zb1_21 rfl rfl (one_of HT_.out (by kernel_rfl)) (by decide) (fun K hK => ?_)
            refine goes_ Tryd.func24 (by kernel_rfl) rfl #[.int .u64 ((a1) % 4294967296), .int .i64 4] (by rfl) rfl rfl (by (try simp only [zY, List.map_cons, List.map_nil]); first | done | rfl | (show #[Value.int IntKind.u64 (IntKind.u64.wrap (a1 % 4294967296)), Value.int IntKind.i64 4] = _; rw [XB.wu64s (by omega) (by omega)]) | (simp only [zV, zX]; rfl)) ?_
            with_reducible refine (lodestoneref04_High.calls k ((a1) % 4294967296) 4 t226 _ A9.out).mono ?_
            rintro e w72 ⟨rfl, hb⟩
            refine ⟨_, rfl, ?_⟩
            have n0_ := zM (zB (g := gb211) (o := .cells #[.int .u32 0, .int .u64 0, .int .u32 0] 25 (0, 0)) (by (with_reducible repeat (first | refine zN ?_ _ | refine zD ?_ | refine zA ?_ _)); exact BK211.out) hb)
            have n1_ := zM (zB (g := gb212) (o := .cells #[.string t216, .int .i64 t217] 62 (0, 0)) (by (with_reducible repeat (first | refine zN ?_ _ | refine zD ?_ | refine zA ?_ _)); exact BK212.out) hb)
            have n2_ := zM (zB (g := gb222) (o := .cells #[.string t219, .int .i64 t220] 62 (0, 0)) (by (with_reducible repeat (first | refine zN ?_ _ | refine zD ?_ | refine zA ?_ _)); exact BK222.out) hb)
            have n3_ := zM (zB (g := gb223) (o := .cells #[.int .u32 ((t215) % 4294967296), .int .u64 t218, .int .u32 ((t221) % 4294967296)] 25 (0, 0)) (by (with_reducible repeat (first | refine zN ?_ _ | refine zD ?_ | refine zA ?_ _)); exact BK223.out) hb)
            have n4_ := zM (below_step (by repeat (first | (with_reducible first | exact HB.out | apply zL | apply zP | apply zW | refine zS ?_ GE211.out | refine zS ?_ GE212.out | refine zS ?_ GE222.out | refine zS ?_ GE223.out) | exact HB.out)) hb)
            clear BK211
            clear BK212
            clear BK222
            clear BK223
            clear HB
            have BK211 := n0_
            have BK212 := n1_
            have BK222 := n2_
            have BK223 := n3_
            have HB := n4_
            clear n0_ n1_ n2_ n3_ n4_
            (try clear hb)
            (try clear hb2)
            (try clear hk)
            (try clear hi)
            refine hK.out _ _ trivial (fun hHeld => ?_)
            clear hK K
            refine norm_ (a' := ?_) ?_ ?_
            rotate_left
            ·show Act.put _ (some 58) _ = _
             simp only [Act.put, zT, zZ, zU, i64_w, i32_w]
             rfl
            refine pure_ (i := 7) (N := some 61) (v := ?_) (a' := ?_) zb1_22 rfl rfl (any_of HT_.out (by kernel_rfl)) (fun _ _ _ h => h) (Or.inl ⟨by rfl, ?_⟩) ?_ ?_
            rotate_left
            ·intro w'
             go_simp
             with_reducible rfl
            rotate_left
            ·simp only [Act.put, zT, zZ, zU, i64_w, i32_w]
             rfl
            refine one_ (i := 8) (N := some 62) zb1_23 rfl rfl (one_of HT_.out (by kernel_rfl)) (by decide) (fun K hK => ?_)
            refine goes_ Tryd.func12 (by kernel_rfl) rfl #[.string t225, .string (t226 ++ (a2.extract 4 480))] (by rfl) rfl rfl (by (try simp only [zY, List.map_cons, List.map_nil]); first | done | rfl | (simp only [zV, zX]; rfl)) ?_
            with_reducible refine (lodestoneref01_Tag.calls t225 (t226 ++ (a2.extract 4 480)) t227 _ A13.out).mono ?_
            rintro e w73 ⟨rfl, hb⟩
            refine ⟨_, rfl, ?_⟩
            have n0_ := zM (zB (g := gb211) (o := .cells #[.int .u32 0, .int .u64 0, .int .u32 0] 25 (0, 0)) (by (with_reducible repeat (first | refine zN ?_ _ | refine zD ?_ | refine zA ?_ _)); exact BK211.out) hb)
            have n1_ := zM (zB (g := gb212) (o := .cells #[.string t216, .int .i64 t217] 62 (0, 0)) (by (with_reducible repeat (first | refine zN ?_ _ | refine zD ?_ | refine zA ?_ _)); exact BK212.out) hb)
            have n2_ := zM (zB (g := gb222) (o := .cells #[.string t219, .int .i64 t220] 62 (0, 0)) (by (with_reducible repeat (first | refine zN ?_ _ | refine zD ?_ | refine zA ?_ _)); exact BK222.out) hb)
            have n3_ := zM (zB (g := gb223) (o := .cells #[.int .u32 ((t215) % 4294967296), .int .u64 t218, .int .u32 ((t221) % 4294967296)] 25 (0, 0)) (by (with_reducible repeat (first | refine zN ?_ _ | refine zD ?_ | refine zA ?_ _)); exact BK223.out) hb)
            have n4_ := zM (below_step (by repeat (first | (with_reducible first | exact HB.out | apply zL | apply zP | apply zW | refine zS ?_ GE211.out | refine zS ?_ GE212.out | refine zS ?_ GE222.out | refine zS ?_ GE223.out) | exact HB.out)) hb)
            clear BK211
            clear BK212
            clear BK222
            clear BK223
            clear HB
            have BK211 := n0_
            have BK212 := n1_
            have BK222 := n2_
            have BK223 := n3_
            have HB := n4_
            clear n0_ n1_ n2_ n3_ n4_
            (try clear hb)
            (try clear hb2)
            (try clear hk)
            (try clear hi)
            refine hK.out _ _ trivial (fun hHeld => ?_)
            clear hK K
            refine norm_ (a' := ?_) ?_ ?_
            rotate_left
            ·show Act.put _ (some 62) _ = _
             simp only [Act.put, zT, zZ, zU, i64_w, i32_w]
             rfl
            refine pure_ (i := 11) (N := some 65) (v := ?_) (a' := ?_) zb1_24 rfl rfl (any_of HT_.out (by kernel_rfl)) (fun _ _ _ h => h) (Or.inl ⟨by rfl, ?_⟩) ?_ ?_
            rotate_left
            ·intro w'
             go_simp
             with_reducible rfl
            rotate_left
            ·simp only [Act.put, zT, zZ, zU, i64_w, i32_w]
             rfl
            refine done_ (done_of HT_.out (by kernel_rfl)) ?_
            try go_wp2
            have n0_ := zM (zD BK211.out)
            have n1_ := zM (zD BK212.out)
            have n2_ := zM (zD BK222.out)
            have n3_ := zM (zD BK223.out)
            have n4_ := zM (zW HB.out)
            clear BK211
            clear BK212
            clear BK222
            clear BK223
            clear HB
            have BK211 := n0_
            have BK212 := n1_
            have BK222 := n2_
            have BK223 := n3_
            have HB := n4_
            clear n0_ n1_ n2_ n3_ n4_
            refine start_ (n := 7) (S := fun w' => True) (ds := []) #[false, false, false, false, false, false, false] (by kernel_rfl) rfl rfl trivial (fun hHeld => ?_)
            generalize w73.drew = w74 at BK211 BK212 BK222 BK223 HB hHeld ⊢
            refine pure_ (i := 0) (N := some 67) (v := ?_) (a' := ?_) #[true, false, false, false, false, false, false] rfl rfl (by kernel_rfl) (fun _ _ _ h => h) (Or.inl ⟨by rfl, ?_⟩) ?_ ?_
            rotate_left
            ·intro w'
             go_simp
             with_reducible rfl
            rotate_left
            ·simp only [Act.put, zT, zZ, zU, i64_w, i32_w]
             rfl
            refine pure_ (i := 1) (N := some 68) (v := ?_) (a' := ?_) #[true, true, false, false, false, false, false] rfl rfl (by kernel_rfl) (fun _ _ _ h => h) (Or.inl ⟨by rfl, ?_⟩) ?_ ?_
            rotate_left
            ·intro w'
             go_simp
             with_reducible rfl
            rotate_left
            ·simp only [Act.put, zT, zZ, zU, i64_w, i32_w]
             rfl
            refine pure_ (i := 2) (N := some 69) (v := ?_) (a' := ?_) #[true, true, true, false, false, false, false] rfl rfl (by kernel_rfl) (fun _ _ _ h => h) (Or.inl ⟨by rfl, ?_⟩) ?_ ?_
            rotate_left
            ·intro w'
             go_simp
             with_reducible rfl
            rotate_left
            ·simp only [Act.put, zT, zZ, zU, i64_w, i32_w]
             rfl
            refine pure_ (i := 3) (N := some 70) (v := ?_) (a' := ?_) #[true, true, true, true, false, false, false] rfl rfl (by kernel_rfl) (fun _ _ _ h => h) (Or.inl ⟨by rfl, ?_⟩) ?_ ?_
            rotate_left
            ·intro w'
             go_simp
             with_reducible rfl
            rotate_left
            ·simp only [Act.put, zT, zZ, zU, i64_w, i32_w]
             rfl
            refine pure_ (i := 4) (N := some 71) (v := ?_) (a' := ?_) #[true, true, true, true, true, false, false] rfl rfl (by kernel_rfl) (fun _ _ _ h => h) (Or.inl ⟨by rfl, ?_⟩) ?_ ?_
            rotate_left
            ·intro w'
             go_simp
             with_reducible rfl
            rotate_left
            ·simp only [Act.put, zT, zZ, zU, i64_w, i32_w]
             rfl
            refine one_ (i := 5) (N := some 72) #[true, true, true, true, true, true, false] rfl rfl (by kernel_rfl) (by decide) (fun K hK => ?_)
            refine goes_ Tryd.func29 (by kernel_rfl) rfl #[.string t224, .string (a2.extract 4 16), .string (a2.extract 16 480)] (by rfl) rfl rfl (by (try simp only [zY, List.map_cons, List.map_nil]); first | done | rfl | (simp only [zV, zX]; rfl)) ?_
            with_reducible refine (lodestoneref03_Turn.calls k t224 (a2.extract 4 16) (a2.extract 16 480) t228 _ A20.out).mono ?_
            rintro e w75 ⟨rfl, hb⟩
            refine ⟨_, rfl, ?_⟩
            have n0_ := zM (zB (g := gb211) (o := .cells #[.int .u32 0, .int .u64 0, .int .u32 0] 25 (0, 0)) (by (with_reducible repeat (first | refine zN ?_ _ | refine zD ?_ | refine zA ?_ _)); exact BK211.out) hb)
            have n1_ := zM (zB (g := gb212) (o := .cells #[.string t216, .int .i64 t217] 62 (0, 0)) (by (with_reducible repeat (first | refine zN ?_ _ | refine zD ?_ | refine zA ?_ _)); exact BK212.out) hb)
            have n2_ := zM (zB (g := gb222) (o := .cells #[.string t219, .int .i64 t220] 62 (0, 0)) (by (with_reducible repeat (first | refine zN ?_ _ | refine zD ?_ | refine zA ?_ _)); exact BK222.out) hb)
            have n3_ := zM (zB (g := gb223) (o := .cells #[.int .u32 ((t215) % 4294967296), .int .u64 t218, .int .u32 ((t221) % 4294967296)] 25 (0, 0)) (by (with_reducible repeat (first | refine zN ?_ _ | refine zD ?_ | refine zA ?_ _)); exact BK223.out) hb)
            have n4_ := zM (below_step (by repeat (first | (with_reducible first | exact HB.out | apply zL | apply zP | apply zW | refine zS ?_ GE211.out | refine zS ?_ GE212.out | refine zS ?_ GE222.out | refine zS ?_ GE223.out) | exact HB.out)) hb)
            clear BK211
            clear BK212
            clear BK222
            clear BK223
            clear HB
            have BK211 := n0_
            have BK212 := n1_
            have BK222 := n2_
            have BK223 := n3_
            have HB := n4_
            clear n0_ n1_ n2_ n3_ n4_
            (try clear hb)
            (try clear hb2)
            (try clear hk)
            (try clear hi)
            refine hK.out _ _ trivial (fun hHeld => ?_)
            clear hK K
            refine norm_ (a' := ?_) ?_ ?_
            rotate_left
            ·show Act.put _ (some 72) _ = _
             simp only [Act.put, zT, zZ, zU, i64_w, i32_w]
             rfl
            refine pure_ (i := 6) (N := some 17) (v := ?_) (a' := ?_) #[true, true, true, true, true, true, true] rfl rfl (by kernel_rfl) (fun _ _ _ h => h) (Or.inl ⟨by rfl, ?_⟩) ?_ ?_
            rotate_left
            ·intro w'
             go_simp
             with_reducible rfl
            rotate_left
            ·simp only [Act.put, zT, zZ, zU, i64_w, i32_w]
             rfl
            refine done_ (by kernel_rfl) ?_
            try go_wp2
            have n0_ := zM (zD BK211.out)
            have n1_ := zM (zD BK212.out)
            have n2_ := zM (zD BK222.out)
            have n3_ := zM (zD BK223.out)
            have n4_ := zM (zW HB.out)
            clear BK211
            clear BK212
            clear BK222
            clear BK223
            clear HB
            have BK211 := n0_
            have BK212 := n1_
            have BK222 := n2_
            have BK223 := n3_
            have HB := n4_
            clear n0_ n1_ n2_ n3_ n4_
            have p22 : 0 ≤ (0 : Int) := (by omega)
            have q22 : 0 < t228.size := (by have : (0 : Int) < (t228.size : Int) := of_decide_eq_true (by first | (with_reducible assumption) | assumption); omega)
            have hx22 : ∀ h : 0 < t228.size, ((t228[0]'h).toNat : Int) = bt t228 0 := bt_at t228 0
            clear p22
            have qi22 : (0 < (t228.size : Int)) = True := eq_true (of_decide_eq_true (by first | (with_reducible assumption) | assumption))
            replace q22 := eq_true q22
            have p24 : 0 ≤ (1 : Int) := (by omega)
            have q24 : 1 < t228.size := (by have : (1 : Int) < (t228.size : Int) := of_decide_eq_true (by first | (with_reducible assumption) | assumption); omega)
            have hx24 : ∀ h : 1 < t228.size, ((t228[1]'h).toNat : Int) = bt t228 1 := bt_at t228 1
            clear p24
            have qi24 : (1 < (t228.size : Int)) = True := eq_true (of_decide_eq_true (by first | (with_reducible assumption) | assumption))
            replace q24 := eq_true q24
            refine start_ (n := 9) (S := fun w' => True) (ds := []) zb1_25 (by kernel_rfl) rfl rfl trivial (fun hHeld => ?_); refine with_tabW lodestoneref11_Get.tab12 lodestoneref11_Get.bits12 (fun HT_ HW_ => ?_)
            generalize w75.drew = w76 at BK211 BK212 BK222 BK223 HB hHeld ⊢
            refine pure_ (i := 0) (N := some 73) (v := ?_) (a' := ?_) zb1_26 rfl rfl (any_of HT_.out (by kernel_rfl)) (fun _ _ _ h => h) (Or.inl ⟨by rfl, ?_⟩) ?_ ?_
            rotate_left
            ·intro w'
             go_simp
             with_reducible rfl
            rotate_left
            ·simp only [Act.put, zT, zZ, zU, i64_w, i32_w]
             rfl
            refine pure_ (i := 4) (N := some 77) (v := ?_) (a' := ?_) zb1_27 rfl rfl (any_of HT_.out (by kernel_rfl)) (fun _ _ _ h => h) (Or.inl ⟨by rfl, ?_⟩) ?_ ?_
            rotate_left
            ·intro w'
             go_simp
             with_reducible rfl
            rotate_left
            ·simp only [Act.put, zT, zZ, zU, i64_w, i32_w]
             rfl
            refine take_ (i := 1) (N := some 74) (v := ?_) (a' := ?_) zb1_28 rfl rfl (take_ofW HT_.out HW_.out (by kernel_rfl)) (fun _ _ _ h => h) (Or.inl ⟨by rfl, ?_⟩) hHeld ?_ ?_
            rotate_left
            ·intro w' _
             go_simp
             with_reducible rfl
            rotate_left
            ·simp only [Act.put, zT, zZ, zU, i64_w, i32_w]
             rfl
            refine pure_ (i := 2) (N := some 75) (v := ?_) (a' := ?_) zb1_29 rfl rfl (any_of HT_.out (by kernel_rfl)) (fun _ _ _ h => h) (Or.inl ⟨by rfl, ?_⟩) ?_ ?_
            rotate_left
            ·intro w'
             go_simp
             with_reducible rfl
            rotate_left
            ·simp only [Act.put, zT, zZ, zU, i64_w, i32_w]
             rfl
            refine pure_ (i := 3) (N := some 76) (v := ?_) (a' := ?_) #[true, true, true, true, true, false, false, false, false] rfl rfl (any_of HT_.out (by kernel_rfl)) (fun _ _ _ h => h) (Or.inl ⟨by rfl, ?_⟩) ?_ ?_
            rotate_left
            ·intro w'
             go_simp
             with_reducible rfl
            rotate_left
            ·simp only [Act.put, zT, zZ, zU, i64_w, i32_w]
             rfl
            refine take_ (i := 5) (N := some 78) (v := ?_) (a' := ?_) #[true, true, true, true, true, true, false, false, false] rfl rfl (take_ofW HT_.out HW_.out (by kernel_rfl)) (fun _ _ _ h => h) (Or.inl ⟨by rfl, ?_⟩) hHeld ?_ ?_
            rotate_left
            ·intro w' _
             go_simp
             with_reducible rfl
            rotate_left
            ·simp only [Act.put, zT, zZ, zU, i64_w, i32_w]
             rfl
            refine pure_ (i := 6) (N := some 79) (v := ?_) (a' := ?_) #[true, true, true, true, true, true, true, false, false] rfl rfl (any_of HT_.out (by kernel_rfl)) (fun _ _ _ h => h) (Or.inl ⟨by rfl, ?_⟩) ?_ ?_
            rotate_left
            ·intro w'
             go_simp
             with_reducible rfl
            rotate_left
            ·simp only [Act.put, zT, zZ, zU, i64_w, i32_w]
             rfl
            refine pure_ (i := 7) (N := some 80) (v := ?_) (a' := ?_) #[true, true, true, true, true, true, true, true, false] rfl rfl (any_of HT_.out (by kernel_rfl)) (fun _ _ _ h => h) (Or.inl ⟨by rfl, ?_⟩) ?_ ?_
            rotate_left
            ·intro w'
             go_simp
             with_reducible rfl
            rotate_left
            ·simp only [Act.put, zT, zZ, zU, i64_w, i32_w]
             rfl
            refine pure_ (i := 8) (N := some 18) (v := ?_) (a' := ?_) #[true, true, true, true, true, true, true, true, true] rfl rfl (any_of HT_.out (by kernel_rfl)) (fun _ _ _ h => h) (Or.inl ⟨by rfl, ?_⟩) ?_ ?_
            rotate_left
            ·intro w'
             go_simp
             with_reducible rfl
            rotate_left
            ·simp only [Act.put, zT, zZ, zU, i64_w, i32_w]
             rfl
            refine done_ (done_of HT_.out (by kernel_rfl)) ?_
            try go_wp2
            go_loopg [19] k (fun kq v19 w' => ∃ (x19_1 : Int) (x212000_1 : Int) (x212001_1 : Int) (x212002_1 : Int), v19 = .int .i64 x19_1 ∧ Aside0 (lodestoneref11_Get.l0 kq t228 (wrap64 ((wrap64 ((wrap64 (bt t228 0)) * 256)) + (wrap64 (bt t228 1)))) x19_1 ((t215) % 4294967296) t218 ((t221) % 4294967296) = some (r1, r2, r3, r4, r5)) ∧ Aside0 (kq ≤ k) ∧ Aside0 (w'.heap[gb211]? = some (.cells #[.int .u32 x212000_1, .int .u64 x212001_1, .int .u32 x212002_1] 25 (0, 0))) ∧ Aside0 (w'.heap[gb212]? = some (.cells #[.string t216, .int .i64 t217] 62 (0, 0))) ∧ Aside0 (w'.heap[gb222]? = some (.cells #[.string t219, .int .i64 t220] 62 (0, 0))) ∧ Aside0 (w'.heap[gb223]? = some (.cells #[.int .u32 ((t215) % 4294967296), .int .u64 t218, .int .u32 ((t221) % 4294967296)] 25 (0, 0))) ∧ Aside0 (Below w.heap.size w w'))
            case atStart => exact ⟨(wrap64 (2 + (wrap64 ((wrap64 ((wrap64 (bt t228 0)) * 256)) + (wrap64 (bt t228 1)))))), (0), (0), (0), (by first | rfl | (simp; done) | (simp [*]; done)), H', ⟨Nat.le_refl _⟩, ⟨by (with_reducible repeat (first | refine zN ?_ _ | refine zD ?_ | refine zA ?_ _)); exact BK211.out⟩, ⟨by (with_reducible repeat (first | refine zN ?_ _ | refine zD ?_ | refine zA ?_ _)); exact BK212.out⟩, ⟨by (with_reducible repeat (first | refine zN ?_ _ | refine zD ?_ | refine zA ?_ _)); exact BK222.out⟩, ⟨by (with_reducible repeat (first | refine zN ?_ _ | refine zD ?_ | refine zA ?_ _)); exact BK223.out⟩, ⟨by repeat (first | (with_reducible first | exact HB.out | apply zL | apply zP | apply zW | refine zS ?_ GE211.out | refine zS ?_ GE212.out | refine zS ?_ GE222.out | refine zS ?_ GE223.out) | exact HB.out)⟩⟩
            case round =>
             clear H'
             try clear c1
             try clear c2
             try clear p2
             try clear q2
             try clear hx2
             try clear qi2
             try clear c5
             try clear c6
             try clear p6
             try clear c11
             try clear c12
             try clear c13
             try clear p22
             try clear q22
             try clear hx22
             try clear qi22
             try clear c24
             try clear p24
             try clear q24
             try clear hx24
             try clear qi24
             try clear c25
             try clear c25b0
             try clear c28
             try clear c29
             try clear c54
             try clear c62
             try clear c63
             try clear p64
             try clear c66
             try clear c67
             try clear c68
             try clear hcz51_0
             try clear hcz51_1
             try clear hcz51_2
             try clear hcz55_0
             try clear hcz55_1
             try clear hcz57_0
             try clear hcz57_1
             try clear hcz59_0
             try clear hcz59_1
             try clear hcz64_0
             try clear hcz64_1
             try clear hcz69_0
             try clear hcz69_1
             try clear hcz69_2
             try clear hfz51_0
             try clear hfz51_1
             try clear hfz51_2
             try clear hfz55_0
             try clear hfz55_1
             try clear hfz57_0
             try clear hfz57_1
             try clear hfz59_0
             try clear hfz59_1
             try clear hfz64_0
             try clear hfz64_1
             try clear hfz69_0
             try clear hfz69_1
             try clear hfz69_2
             try clear p22
             try clear p24
             try clear q22
             try clear q24
             obtain ⟨x19_1, x212000_1, x212001_1, x212002_1, rfl, HA, HK1, BK211, BK212, BK222, BK223, HB⟩ := hrel
             cases gk with
             | zero => exact absurd HA.out (by simp [lodestoneref11_Get.l0])
             | succ k1 =>
              have H := HA.out
              clear HA
              simp only [lodestoneref11_Get.l0] at H
              by_cases c77 : x19_1 < (t228.size : Int)
              ·rw [if_pos c77] at H
               have c77b0 : decide (x19_1 < (t228.size : Int)) = true := decide_eq_true c77
               clear c77
               by_cases c78 : 0 ≤ x19_1
               ·rw [if_pos c78] at H
                have c78b0 : decide (0 ≤ x19_1) = true := decide_eq_true c78
                clear c78
                by_cases c80 : (bt t228 x19_1) = 0
                ·rw [if_pos c80] at H
                 have c80b0 : ((bt t228 x19_1) == 0) = true := beq_iff_eq.mpr c80
                 have c80b1 : ((bt t228 x19_1) != 0) = false := bne_eq_false_iff_eq.mpr c80
                 clear c80
                 have H' := zM H
                 clear H
                 have p79 : 0 ≤ (x19_1 : Int) := of_decide_eq_true (by first | (with_reducible assumption) | assumption)
                 have q79 : x19_1 < (t228.size : Int) := of_decide_eq_true (by first | (with_reducible assumption) | assumption)
                 have hx79 := bt_at t228 x19_1
                 replace p79 := eq_true p79
                 replace q79 := eq_true q79
                 go_wp2
                 go_roundg k1
                 case measure => have := HK1.out; omega
                 case rel => exact ⟨(wrap64 (x19_1 + 1)), (x212000_1), (x212001_1), (x212002_1), (by first | rfl | (simp; done) | (simp [*]; done)), H', ⟨by have := HK1.out; omega⟩, ⟨by (with_reducible repeat (first | refine zN ?_ _ | refine zD ?_ | refine zA ?_ _)); exact BK211.out⟩, ⟨by (with_reducible repeat (first | refine zN ?_ _ | refine zD ?_ | refine zA ?_ _)); exact BK212.out⟩, ⟨by (with_reducible repeat (first | refine zN ?_ _ | refine zD ?_ | refine zA ?_ _)); exact BK222.out⟩, ⟨by (with_reducible repeat (first | refine zN ?_ _ | refine zD ?_ | refine zA ?_ _)); exact BK223.out⟩, ⟨by repeat (first | (with_reducible first | exact HB.out | apply zL | apply zP | apply zW | refine zS ?_ GE211.out | refine zS ?_ GE212.out | refine zS ?_ GE222.out | refine zS ?_ GE223.out) | exact HB.out)⟩⟩
                ·rw [if_neg c80] at H
                 have c80b0 : ((bt t228 x19_1) == 0) = false := beq_eq_false_iff_ne.mpr c80
                 have c80b1 : ((bt t228 x19_1) != 0) = true := bne_iff_ne.mpr c80
                 simp only [Option.some.injEq, Prod.mk.injEq] at H
                 obtain ⟨rfl, rfl, rfl, rfl, rfl⟩ := H
                 have p79 : 0 ≤ (x19_1 : Int) := of_decide_eq_true (by first | (with_reducible assumption) | assumption)
                 have q79 : x19_1 < (t228.size : Int) := of_decide_eq_true (by first | (with_reducible assumption) | assumption)
                 have hx79 := bt_at t228 x19_1
                 replace p79 := eq_true p79
                 replace q79 := eq_true q79
                 have hnb81 := NB211_212.out
                 have hnc81 := NB212_211.out
                 have hnb82 := NB211_222.out
                 have hnc82 := NB222_211.out
                 have hnb83 := NB211_223.out
                 have hnc83 := NB223_211.out
                 have hcz84_0 : wr.cell? ⟨gb211, 0, none⟩ = some (.int .u32 x212000_1) := (zC BK211.out 0).trans rfl
                 have hcz84_1 : wr.cell? ⟨gb211, 1, none⟩ = some (.int .u64 x212001_1) := (zC BK211.out 1).trans rfl
                 have hcz84_2 : wr.cell? ⟨gb211, 2, none⟩ = some (.int .u32 x212002_1) := (zC BK211.out 2).trans rfl
                 have hfz84_0 := zF BK211.out 0
                 have hfz84_1 := zF BK211.out 1
                 have hfz84_2 := zF BK211.out 2
                 go_wp2
                 refine bodyPost_ret (results_ctt rfl _ _ gb211 25 #[.int .u32 0, .int .u64 0, .int .u32 0] (0, 0) _ rfl (by (with_reducible repeat (first | refine zN ?_ _ | refine zD ?_ | refine zA ?_ _)); refine blk_put (cs := #[.int .u32 0, .int .u64 0, .int .u32 x212002_1]) ?_ 2 _ rfl; (with_reducible repeat (first | refine zN ?_ _ | refine zD ?_ | refine zA ?_ _)); refine blk_put (cs := #[.int .u32 0, .int .u64 x212001_1, .int .u32 x212002_1]) ?_ 1 _ rfl; (with_reducible repeat (first | refine zN ?_ _ | refine zD ?_ | refine zA ?_ _)); refine blk_put (cs := #[.int .u32 x212000_1, .int .u64 x212001_1, .int .u32 x212002_1]) ?_ 0 _ rfl; (with_reducible repeat (first | refine zN ?_ _ | refine zD ?_ | refine zA ?_ _)); exact BK211.out) Tryd.underlying25 rfl (by kernel_rfl)) rfl ?_
                 exact ⟨by first | rfl | (simp [errW_none, errW_some] <;> rfl) | (simp [*, errW_none, errW_some] <;> rfl), by repeat (first | (with_reducible first | exact HB.out | apply zL | apply zP | apply zW | refine zS ?_ GE211.out | refine zS ?_ GE212.out | refine zS ?_ GE222.out | refine zS ?_ GE223.out) | exact HB.out)⟩
               ·rw [if_neg c78] at H
                exact absurd H (by simp)
              ·rw [if_neg c77] at H
               have c77b0 : decide (x19_1 < (t228.size : Int)) = false := decide_eq_false c77
               clear c77
               by_cases c85 : 2 ≤ (wrap64 (2 + (wrap64 ((wrap64 ((wrap64 (bt t228 0)) * 256)) + (wrap64 (bt t228 1))))))
               ·rw [if_pos c85] at H
                have c85b0 := eq_true c85
                have c85b1 : decide (2 ≤ (wrap64 (2 + (wrap64 ((wrap64 ((wrap64 (bt t228 0)) * 256)) + (wrap64 (bt t228 1))))))) = true := decide_eq_true c85
                by_cases c86 : (wrap64 (2 + (wrap64 ((wrap64 ((wrap64 (bt t228 0)) * 256)) + (wrap64 (bt t228 1)))))) ≤ (t228.size : Int)
                ·rw [if_pos c86] at H
                 have c86b0 := eq_true c86
                 have c86b1 : decide ((wrap64 (2 + (wrap64 ((wrap64 ((wrap64 (bt t228 0)) * 256)) + (wrap64 (bt t228 1)))))) ≤ (t228.size : Int)) = true := decide_eq_true c86
                 simp only [Option.some.injEq, Prod.mk.injEq] at H
                 obtain ⟨rfl, rfl, rfl, rfl, rfl⟩ := H
                 try go_wp2
                 have n0_ := zM (zD BK211.out)
                 have n1_ := zM (zD BK212.out)
                 have n2_ := zM (zD BK222.out)
                 have n3_ := zM (zD BK223.out)
                 have n4_ := zM (zW HB.out)
                 clear BK211
                 clear BK212
                 clear BK222
                 clear BK223
                 clear HB
                 have BK211 := n0_
                 have BK212 := n1_
                 have BK222 := n2_
                 have BK223 := n3_
                 have HB := n4_
                 clear n0_ n1_ n2_ n3_ n4_
                 refine start_ (n := 8) (S := fun w' => w'.cell? ⟨gb223, 0, none⟩ = some (.int .u32 ((t215) % 4294967296)) ∧ w'.cell? ⟨gb223, 1, none⟩ = some (.int .u64 t218) ∧ w'.cell? ⟨gb223, 2, none⟩ = some (.int .u32 ((t221) % 4294967296))) (ds := []) #[false, false, false, false, false, false, false, false] (by kernel_rfl) rfl rfl ⟨(zC BK223.out 0).trans rfl, (zC BK223.out 1).trans rfl, (zC BK223.out 2).trans rfl⟩ (fun hHeld => ?_); refine with_tabW lodestoneref11_Get.tab20 lodestoneref11_Get.bits20 (fun HT_ HW_ => ?_)
                 generalize wr.drew = w87 at BK211 BK212 BK222 BK223 HB hHeld ⊢
                 refine pure_ (i := 1) (N := some 98) (v := ?_) (a' := ?_) #[false, true, false, false, false, false, false, false] rfl rfl (any_of HT_.out (by kernel_rfl)) (fun _ _ _ h => h) (Or.inl ⟨by rfl, ?_⟩) ?_ ?_
                 rotate_left
                 ·intro w'
                  go_simp
                  with_reducible rfl
                 rotate_left
                 ·simp only [Act.put, zT, zZ, zU, i64_w, i32_w]
                  rfl
                 refine pure_ (i := 2) (N := some 99) (v := ?_) (a' := ?_) #[false, true, true, false, false, false, false, false] rfl rfl (any_of HT_.out (by kernel_rfl)) (fun _ _ _ h => h) (Or.inl ⟨by rfl, ?_⟩) ?_ ?_
                 rotate_left
                 ·intro w'
                  go_simp
                  with_reducible rfl
                 rotate_left
                 ·simp only [Act.put, zT, zZ, zU, i64_w, i32_w]
                  rfl
                 refine pure_ (i := 3) (N := some 100) (v := ?_) (a' := ?_) #[false, true, true, true, false, false, false, false] rfl rfl (any_of HT_.out (by kernel_rfl)) (fun _ _ _ h => h) (Or.inl ⟨by rfl, ?_⟩) ?_ ?_
                 rotate_left
                 ·intro w'
                  go_simp
                  with_reducible rfl
                 rotate_left
                 ·simp only [Act.put, zT, zZ, zU, i64_w, i32_w]
                  rfl
                 refine pure_ (i := 4) (N := some 101) (v := ?_) (a' := ?_) #[false, true, true, true, true, false, false, false] rfl rfl (any_of HT_.out (by kernel_rfl)) (fun _ _ _ h => h) (Or.inl ⟨by rfl, ?_⟩) ?_ ?_
                 rotate_left
                 ·intro w'
                  go_simp
                  with_reducible rfl
                 rotate_left
                 ·simp only [Act.put, zT, zZ, zU, i64_w, i32_w]
                  rfl
                 refine take_ (i := 0) (N := some 97) (v := ?_) (a' := ?_) #[true, true, true, true, true, false, false, false] rfl rfl (take_ofW HT_.out HW_.out (by kernel_rfl)) (fun _ _ _ h => h) (Or.inl ⟨by rfl, ?_⟩) hHeld ?_ ?_
                 rotate_left
                 ·rintro w' ⟨s0, s1, s2⟩
                  go_simp
                  with_reducible rfl
                 rotate_left
                 ·simp only [Act.put, zT, zZ, zU, i64_w, i32_w]
                  rfl
                 refine one_ (i := 5) (N := none) #[true, true, true, true, true, true, false, false] rfl rfl (one_of HT_.out (by kernel_rfl)) (by decide) (fun K hK => ?_)
                 have hs88 : w87.cell? ⟨gb211, 0, none⟩ = some (.int .u32 x212000_1) := (zC BK211.out 0).trans rfl
                 have hfs88 := zF BK211.out 0
                 have hns88_1 := NB212_211.out
                 have hns88_2 := NB222_211.out
                 have hns88_3 := NB223_211.out
                 have hms88_1 := NB211_212.out
                 have hms88_2 := NB211_222.out
                 have hms88_3 := NB211_223.out
                 have hs89 : w87.cell? ⟨gb211, 1, none⟩ = some (.int .u64 x212001_1) := (zC BK211.out 1).trans rfl
                 have hfs89 := zF BK211.out 1
                 have hns89_1 := NB212_211.out
                 have hns89_2 := NB222_211.out
                 have hns89_3 := NB223_211.out
                 have hms89_1 := NB211_212.out
                 have hms89_2 := NB211_222.out
                 have hms89_3 := NB211_223.out
                 have hs90 : w87.cell? ⟨gb211, 2, none⟩ = some (.int .u32 x212002_1) := (zC BK211.out 2).trans rfl
                 have hfs90 := zF BK211.out 2
                 have hns90_1 := NB212_211.out
                 have hns90_2 := NB222_211.out
                 have hns90_3 := NB223_211.out
                 have hms90_1 := NB211_212.out
                 have hms90_2 := NB211_222.out
                 have hms90_3 := NB211_223.out
                 refine skip_ (w1 := ?_) (by rfl) rfl ?_ ?_
                 rotate_left
                 ·go_simp
                  rfl
                 refine hK.out _ _ ⟨((cell_far (p := ⟨gb211, _, none⟩) NB223_211.out _).trans (((cell_far (p := ⟨gb211, _, none⟩) NB223_211.out _).trans (((cell_far (p := ⟨gb211, _, none⟩) NB223_211.out _).trans (hHeld.1)))))), ((cell_far (p := ⟨gb211, _, none⟩) NB223_211.out _).trans (((cell_far (p := ⟨gb211, _, none⟩) NB223_211.out _).trans (((cell_far (p := ⟨gb211, _, none⟩) NB223_211.out _).trans (hHeld.2.1)))))), ((cell_far (p := ⟨gb211, _, none⟩) NB223_211.out _).trans (((cell_far (p := ⟨gb211, _, none⟩) NB223_211.out _).trans (((cell_far (p := ⟨gb211, _, none⟩) NB223_211.out _).trans (hHeld.2.2))))))⟩ (fun hHeld => ?_)
                 clear hK K
                 refine pure_ (i := 6) (N := some 7) (v := ?_) (a' := ?_) #[true, true, true, true, true, true, true, false] rfl rfl (any_of HT_.out (by kernel_rfl)) (fun _ _ _ h => h) (Or.inl ⟨by rfl, ?_⟩) ?_ ?_
                 rotate_left
                 ·intro w'
                  go_simp
                  with_reducible rfl
                 rotate_left
                 ·simp only [Act.put, zT, zZ, zU, i64_w, i32_w]
                  rfl
                 refine pure_ (i := 7) (N := some 8) (v := ?_) (a' := ?_) #[true, true, true, true, true, true, true, true] rfl rfl (any_of HT_.out (by kernel_rfl)) (fun _ _ _ h => h) (Or.inl ⟨by rfl, ?_⟩) ?_ ?_
                 rotate_left
                 ·intro w'
                  go_simp
                  with_reducible rfl
                 rotate_left
                 ·simp only [Act.put, zT, zZ, zU, i64_w, i32_w]
                  rfl
                 refine done_ (done_of HT_.out (by kernel_rfl)) ?_
                 try go_wp2
                 refine bodyPost_ret (results_ctt rfl _ _ gb211 25 #[.int .u32 ((t215) % 4294967296), .int .u64 t218, .int .u32 ((t221) % 4294967296)] (0, 0) _ rfl (by (with_reducible repeat (first | refine zN ?_ _ | refine zD ?_ | refine zA ?_ _)); refine blk_put (cs := #[.int .u32 ((t215) % 4294967296), .int .u64 t218, .int .u32 x212002_1]) ?_ 2 _ rfl; (with_reducible repeat (first | refine zN ?_ _ | refine zD ?_ | refine zA ?_ _)); refine blk_put (cs := #[.int .u32 ((t215) % 4294967296), .int .u64 x212001_1, .int .u32 x212002_1]) ?_ 1 _ rfl; (with_reducible repeat (first | refine zN ?_ _ | refine zD ?_ | refine zA ?_ _)); refine blk_put (cs := #[.int .u32 x212000_1, .int .u64 x212001_1, .int .u32 x212002_1]) ?_ 0 _ rfl; (with_reducible repeat (first | refine zN ?_ _ | refine zD ?_ | refine zA ?_ _)); exact BK211.out) Tryd.underlying25 rfl (by kernel_rfl)) rfl ?_
                 exact ⟨by first | rfl | (simp [errW_none, errW_some] <;> rfl) | (simp [*, errW_none, errW_some] <;> rfl), by repeat (first | (with_reducible first | exact HB.out | apply zL | apply zP | apply zW | refine zS ?_ GE211.out | refine zS ?_ GE212.out | refine zS ?_ GE222.out | refine zS ?_ GE223.out) | exact HB.out)⟩
                ·rw [if_neg c86] at H
                 exact absurd H (by simp)
               ·rw [if_neg c85] at H
                exact absurd H (by simp)
          ·rw [if_neg c23] at H
           exact absurd H (by simp)
         ·rw [if_neg c21] at H
          exact absurd H (by simp)
        ·rw [if_neg c18] at H
         exact absurd H (by simp)
       ·rw [if_neg c17] at H
        exact absurd H (by simp)
      ·rw [if_neg c16] at H
       exact absurd H (by simp)
     ·rw [if_neg c15] at H
      have c15b0 : (t227.toList == (a2.extract 480 a2.size).toList) = false := beq_eq_false_iff_ne.mpr c15
      have c15b1 : (t227.toList != (a2.extract 480 a2.size).toList) = true := bne_iff_ne.mpr c15
      simp only [Option.some.injEq, Prod.mk.injEq] at H
      obtain ⟨rfl, rfl, rfl, rfl, rfl⟩ := H
      go_enter Tryd.func13, Tryd.ntmps13
      try go_wp2_with (first | ((with_reducible refine gate_dst (N := 6) rfl ?_); refine box_event ?hg (N := 6) ?hd (cs := #[.int .u32 0, .int .u64 0, .int .u32 0]) (t := 25) ?hr ?_; (case hd => rfl); (case hg => rfl); (case hr => first | (go_simp; done) | (go_simp; rfl)); intro gb211 hg w91 hbox hb; have n0_ := zM (below_step (by repeat (first | (with_reducible first | exact HB.out | apply zL | apply zP | apply zW) | exact HB.out)) hb); have n1_ := zM (hbox); have n2_ := zM ((by rw [hg]; exact (below_size (by repeat (first | (with_reducible first | exact HB.out | apply zL | apply zP | apply zW) | exact HB.out))) : w.heap.size ≤ gb211)); have n3_ := zM ((by rw [hg]; exact (below_size (by repeat (first | (with_reducible first | exact HB.out | apply zL | apply zP | apply zW) | exact HB.out))) : w.heap.size ≤ gb211)); clear HB; have HB := n0_; have BK211 := n1_; have GW211 := n2_; have GE211 := n3_; clear n0_ n1_ n2_ n3_; clear hb hbox hg) | ((with_reducible refine gate_dst (N := 9) rfl ?_); refine box_event ?hg (N := 9) ?hd (cs := #[.string (⟨#[]⟩ : ByteArray), .int .i64 0]) (t := 62) ?hr ?_; (case hd => rfl); (case hg => rfl); (case hr => first | (go_simp; done) | (go_simp; rfl)); intro gb212 hg w92 hbox hb; have n0_ := zM (zB (g := gb211) (o := .cells #[.int .u32 0, .int .u64 0, .int .u32 0] 25 (0, 0)) (by (with_reducible repeat (first | refine zN ?_ _ | refine zD ?_ | refine zA ?_ _)); exact BK211.out) hb); have n1_ := zM (below_step (by repeat (first | (with_reducible first | exact HB.out | apply zL | apply zP | apply zW | refine zS ?_ GE211.out) | exact HB.out)) hb); have n2_ := zM (hbox); have n3_ := zM ((by rw [hg]; exact (below_size (by repeat (first | (with_reducible first | exact HB.out | apply zL | apply zP | apply zW | refine zS ?_ GE211.out) | exact HB.out))) : w.heap.size ≤ gb212)); have n4_ := zM ((by rw [hg]; exact (below_size (by repeat (first | (with_reducible first | exact HB.out | apply zL | apply zP | apply zW | refine zS ?_ GE211.out) | exact HB.out))) : w.heap.size ≤ gb212)); have n5_ := zM ((by rw [hg]; exact Nat.ne_of_lt (blk_lt (g := gb211) (o := .cells #[.int .u32 0, .int .u64 0, .int .u32 0] 25 (0, 0)) (by (with_reducible repeat (first | refine zN ?_ _ | refine zD ?_ | refine zA ?_ _)); exact BK211.out)) : gb211 ≠ gb212)); have n6_ := zM ((by rw [hg]; exact Nat.ne_of_gt (blk_lt (g := gb211) (o := .cells #[.int .u32 0, .int .u64 0, .int .u32 0] 25 (0, 0)) (by (with_reducible repeat (first | refine zN ?_ _ | refine zD ?_ | refine zA ?_ _)); exact BK211.out)) : gb212 ≠ gb211)); clear BK211; clear HB; have BK211 := n0_; have HB := n1_; have BK212 := n2_; have GW212 := n3_; have GE212 := n4_; have NB211_212 := n5_; have NB212_211 := n6_; clear n0_ n1_ n2_ n3_ n4_ n5_ n6_; clear hb hbox hg; have hnb93 := NB212_211.out; have hnc93 := NB211_212.out; have hcz94_0 : w92.cell? ⟨gb212, 0, none⟩ = some (.string (⟨#[]⟩ : ByteArray)) := (zC BK212.out 0).trans rfl; have hcz94_1 : w92.cell? ⟨gb212, 1, none⟩ = some (.int .i64 0) := (zC BK212.out 1).trans rfl; have hfz94_0 := zF BK212.out 0; have hfz94_1 := zF BK212.out 1) | ((with_reducible refine gate_callee (f := 28) rfl ?_); refine goesL_ (some 28) rfl rfl Tryd.func28 (by kernel_rfl) rfl #[.agg #[.string a2, .int .i64 0], .int .i64 4] rfl (by (try simp only [zY, List.map_cons, List.map_nil]); first | done | rfl | (simp only [zV, zX]; rfl)) ?_; (with_reducible refine (lodestoneref04_R_High.calls k a2 0 4 t213 t214 t215 _ A5.out).mono ?_); rintro e w95 ⟨rfl, hb⟩; refine ⟨_, rfl, ?_⟩; have n0_ := zM (zB (g := gb211) (o := .cells #[.int .u32 0, .int .u64 0, .int .u32 0] 25 (0, 0)) (by (with_reducible repeat (first | refine zN ?_ _ | refine zD ?_ | refine zA ?_ _)); refine blk_far ?_ NB211_212.out _; (with_reducible repeat (first | refine zN ?_ _ | refine zD ?_ | refine zA ?_ _)); refine blk_far ?_ NB211_212.out _; (with_reducible repeat (first | refine zN ?_ _ | refine zD ?_ | refine zA ?_ _)); exact BK211.out) hb); have n1_ := zM (zB (g := gb212) (o := .cells #[.string a2, .int .i64 0] 62 (0, 0)) (by (with_reducible repeat (first | refine zN ?_ _ | refine zD ?_ | refine zA ?_ _)); refine blk_put (cs := #[.string a2, .int .i64 0]) ?_ 1 _ rfl; (with_reducible repeat (first | refine zN ?_ _ | refine zD ?_ | refine zA ?_ _)); refine blk_put (cs := #[.string (⟨#[]⟩ : ByteArray), .int .i64 0]) ?_ 0 _ rfl; (with_reducible repeat (first | refine zN ?_ _ | refine zD ?_ | refine zA ?_ _)); exact BK212.out) hb); have n2_ := zM (below_step (by repeat (first | (with_reducible first | exact HB.out | apply zL | apply zP | apply zW | refine zS ?_ GE211.out | refine zS ?_ GE212.out) | exact HB.out)) hb); clear BK211; clear BK212; clear HB; have BK211 := n0_; have BK212 := n1_; have HB := n2_; clear n0_ n1_ n2_; (try clear hb); (try clear hb2); (try clear hk); (try clear hi); have hcz96_0 : w95.cell? ⟨gb212, 0, none⟩ = some (.string a2) := (zC BK212.out 0).trans rfl; have hcz96_1 : w95.cell? ⟨gb212, 1, none⟩ = some (.int .i64 0) := (zC BK212.out 1).trans rfl; have hfz96_0 := zF BK212.out 0; have hfz96_1 := zF BK212.out 1) | ((with_reducible refine gate_callee (f := 28) rfl ?_); refine goesL_ (some 33) rfl rfl Tryd.func28 (by kernel_rfl) rfl #[.agg #[.string t213, .int .i64 t214], .int .i64 8] rfl (by (try simp only [zY, List.map_cons, List.map_nil]); first | done | rfl | (simp only [zV, zX]; rfl)) ?_; (with_reducible refine (lodestoneref04_R_High.calls k t213 t214 8 t216 t217 t218 _ A6.out).mono ?_); rintro e w97 ⟨rfl, hb⟩; refine ⟨_, rfl, ?_⟩; have n0_ := zM (zB (g := gb211) (o := .cells #[.int .u32 0, .int .u64 0, .int .u32 0] 25 (0, 0)) (by (with_reducible repeat (first | refine zN ?_ _ | refine zD ?_ | refine zA ?_ _)); refine blk_far ?_ NB211_212.out _; (with_reducible repeat (first | refine zN ?_ _ | refine zD ?_ | refine zA ?_ _)); refine blk_far ?_ NB211_212.out _; (with_reducible repeat (first | refine zN ?_ _ | refine zD ?_ | refine zA ?_ _)); exact BK211.out) hb); have n1_ := zM (zB (g := gb212) (o := .cells #[.string t213, .int .i64 t214] 62 (0, 0)) (by (with_reducible repeat (first | refine zN ?_ _ | refine zD ?_ | refine zA ?_ _)); refine blk_put (cs := #[.string t213, .int .i64 0]) ?_ 1 _ rfl; (with_reducible repeat (first | refine zN ?_ _ | refine zD ?_ | refine zA ?_ _)); refine blk_put (cs := #[.string a2, .int .i64 0]) ?_ 0 _ rfl; (with_reducible repeat (first | refine zN ?_ _ | refine zD ?_ | refine zA ?_ _)); exact BK212.out) hb); have n2_ := zM (below_step (by repeat (first | (with_reducible first | exact HB.out | apply zL | apply zP | apply zW | refine zS ?_ GE211.out | refine zS ?_ GE212.out) | exact HB.out)) hb); clear BK211; clear BK212; clear HB; have BK211 := n0_; have BK212 := n1_; have HB := n2_; clear n0_ n1_ n2_; (try clear hb); (try clear hb2); (try clear hk); (try clear hi); have hcz98_0 : w97.cell? ⟨gb212, 0, none⟩ = some (.string t213) := (zC BK212.out 0).trans rfl; have hcz98_1 : w97.cell? ⟨gb212, 1, none⟩ = some (.int .i64 t214) := (zC BK212.out 1).trans rfl; have hfz98_0 := zF BK212.out 0; have hfz98_1 := zF BK212.out 1) | ((with_reducible refine gate_callee (f := 28) rfl ?_); refine goesL_ (some 38) rfl rfl Tryd.func28 (by kernel_rfl) rfl #[.agg #[.string t216, .int .i64 t217], .int .i64 4] rfl (by (try simp only [zY, List.map_cons, List.map_nil]); first | done | rfl | (simp only [zV, zX]; rfl)) ?_; (with_reducible refine (lodestoneref04_R_High.calls k t216 t217 4 t219 t220 t221 _ A7.out).mono ?_); rintro e w99 ⟨rfl, hb⟩; refine ⟨_, rfl, ?_⟩; have n0_ := zM (zB (g := gb211) (o := .cells #[.int .u32 0, .int .u64 0, .int .u32 0] 25 (0, 0)) (by (with_reducible repeat (first | refine zN ?_ _ | refine zD ?_ | refine zA ?_ _)); refine blk_far ?_ NB211_212.out _; (with_reducible repeat (first | refine zN ?_ _ | refine zD ?_ | refine zA ?_ _)); refine blk_far ?_ NB211_212.out _; (with_reducible repeat (first | refine zN ?_ _ | refine zD ?_ | refine zA ?_ _)); exact BK211.out) hb); have n1_ := zM (zB (g := gb212) (o := .cells #[.string t216, .int .i64 t217] 62 (0, 0)) (by (with_reducible repeat (first | refine zN ?_ _ | refine zD ?_ | refine zA ?_ _)); refine blk_put (cs := #[.string t216, .int .i64 t214]) ?_ 1 _ rfl; (with_reducible repeat (first | refine zN ?_ _ | refine zD ?_ | refine zA ?_ _)); refine blk_put (cs := #[.string t213, .int .i64 t214]) ?_ 0 _ rfl; (with_reducible repeat (first | refine zN ?_ _ | refine zD ?_ | refine zA ?_ _)); exact BK212.out) hb); have n2_ := zM (below_step (by repeat (first | (with_reducible first | exact HB.out | apply zL | apply zP | apply zW | refine zS ?_ GE211.out | refine zS ?_ GE212.out) | exact HB.out)) hb); clear BK211; clear BK212; clear HB; have BK211 := n0_; have BK212 := n1_; have HB := n2_; clear n0_ n1_ n2_; (try clear hb); (try clear hb2); (try clear hk); (try clear hi)) | ((with_reducible refine gate_dst (N := 12) rfl ?_); refine box_event ?hg (N := 12) ?hd (cs := #[.string (⟨#[]⟩ : ByteArray), .int .i64 0]) (t := 62) ?hr ?_; (case hd => rfl); (case hg => rfl); (case hr => first | (go_simp; done) | (go_simp; rfl)); intro gb222 hg w100 hbox hb; have n0_ := zM (zB (g := gb211) (o := .cells #[.int .u32 0, .int .u64 0, .int .u32 0] 25 (0, 0)) (by (with_reducible repeat (first | refine zN ?_ _ | refine zD ?_ | refine zA ?_ _)); exact BK211.out) hb); have n1_ := zM (zB (g := gb212) (o := .cells #[.string t216, .int .i64 t217] 62 (0, 0)) (by (with_reducible repeat (first | refine zN ?_ _ | refine zD ?_ | refine zA ?_ _)); exact BK212.out) hb); have n2_ := zM (below_step (by repeat (first | (with_reducible first | exact HB.out | apply zL | apply zP | apply zW | refine zS ?_ GE211.out | refine zS ?_ GE212.out) | exact HB.out)) hb); have n3_ := zM (hbox); have n4_ := zM ((by rw [hg]; exact (below_size (by repeat (first | (with_reducible first | exact HB.out | apply zL | apply zP | apply zW | refine zS ?_ GE211.out | refine zS ?_ GE212.out) | exact HB.out))) : w.heap.size ≤ gb222)); have n5_ := zM ((by rw [hg]; exact (below_size (by repeat (first | (with_reducible first | exact HB.out | apply zL | apply zP | apply zW | refine zS ?_ GE211.out | refine zS ?_ GE212.out) | exact HB.out))) : w.heap.size ≤ gb222)); have n6_ := zM ((by rw [hg]; exact Nat.ne_of_lt (blk_lt (g := gb211) (o := .cells #[.int .u32 0, .int .u64 0, .int .u32 0] 25 (0, 0)) (by (with_reducible repeat (first | refine zN ?_ _ | refine zD ?_ | refine zA ?_ _)); exact BK211.out)) : gb211 ≠ gb222)); have n7_ := zM ((by rw [hg]; exact Nat.ne_of_gt (blk_lt (g := gb211) (o := .cells #[.int .u32 0, .int .u64 0, .int .u32 0] 25 (0, 0)) (by (with_reducible repeat (first | refine zN ?_ _ | refine zD ?_ | refine zA ?_ _)); exact BK211.out)) : gb222 ≠ gb211)); have n8_ := zM ((by rw [hg]; exact Nat.ne_of_lt (blk_lt (g := gb212) (o := .cells #[.string t216, .int .i64 t217] 62 (0, 0)) (by (with_reducible repeat (first | refine zN ?_ _ | refine zD ?_ | refine zA ?_ _)); exact BK212.out)) : gb212 ≠ gb222)); have n9_ := zM ((by rw [hg]; exact Nat.ne_of_gt (blk_lt (g := gb212) (o := .cells #[.string t216, .int .i64 t217] 62 (0, 0)) (by (with_reducible repeat (first | refine zN ?_ _ | refine zD ?_ | refine zA ?_ _)); exact BK212.out)) : gb222 ≠ gb212)); clear BK211; clear BK212; clear HB; have BK211 := n0_; have BK212 := n1_; have HB := n2_; have BK222 := n3_; have GW222 := n4_; have GE222 := n5_; have NB211_222 := n6_; have NB222_211 := n7_; have NB212_222 := n8_; have NB222_212 := n9_; clear n0_ n1_ n2_ n3_ n4_ n5_ n6_ n7_ n8_ n9_; clear hb hbox hg; have hnb101 := NB222_211.out; have hnc101 := NB211_222.out; have hnb102 := NB222_212.out; have hnc102 := NB212_222.out; have hcz103_0 : w100.cell? ⟨gb222, 0, none⟩ = some (.string (⟨#[]⟩ : ByteArray)) := (zC BK222.out 0).trans rfl; have hcz103_1 : w100.cell? ⟨gb222, 1, none⟩ = some (.int .i64 0) := (zC BK222.out 1).trans rfl; have hfz103_0 := zF BK222.out 0; have hfz103_1 := zF BK222.out 1) | ((with_reducible refine gate_dst (N := 14) rfl ?_); refine box_event ?hg (N := 14) ?hd (cs := #[.int .u32 0, .int .u64 0, .int .u32 0]) (t := 25) ?hr ?_; (case hd => rfl); (case hg => rfl); (case hr => first | (go_simp; done) | (go_simp; rfl)); intro gb223 hg w104 hbox hb; have n0_ := zM (zB (g := gb211) (o := .cells #[.int .u32 0, .int .u64 0, .int .u32 0] 25 (0, 0)) (by (with_reducible repeat (first | refine zN ?_ _ | refine zD ?_ | refine zA ?_ _)); refine blk_far ?_ NB211_222.out _; (with_reducible repeat (first | refine zN ?_ _ | refine zD ?_ | refine zA ?_ _)); refine blk_far ?_ NB211_222.out _; (with_reducible repeat (first | refine zN ?_ _ | refine zD ?_ | refine zA ?_ _)); exact BK211.out) hb); have n1_ := zM (zB (g := gb212) (o := .cells #[.string t216, .int .i64 t217] 62 (0, 0)) (by (with_reducible repeat (first | refine zN ?_ _ | refine zD ?_ | refine zA ?_ _)); refine blk_far ?_ NB212_222.out _; (with_reducible repeat (first | refine zN ?_ _ | refine zD ?_ | refine zA ?_ _)); refine blk_far ?_ NB212_222.out _; (with_reducible repeat (first | refine zN ?_ _ | refine zD ?_ | refine zA ?_ _)); exact BK212.out) hb); have n2_ := zM (zB (g := gb222) (o := .cells #[.string t219, .int .i64 t220] 62 (0, 0)) (by (with_reducible repeat (first | refine zN ?_ _ | refine zD ?_ | refine zA ?_ _)); refine blk_put (cs := #[.string t219, .int .i64 0]) ?_ 1 _ rfl; (with_reducible repeat (first | refine zN ?_ _ | refine zD ?_ | refine zA ?_ _)); refine blk_put (cs := #[.string (⟨#[]⟩ : ByteArray), .int .i64 0]) ?_ 0 _ rfl; (with_reducible repeat (first | refine zN ?_ _ | refine zD ?_ | refine zA ?_ _)); exact BK222.out) hb); have n3_ := zM (below_step (by repeat (first | (with_reducible first | exact HB.out | apply zL | apply zP | apply zW | refine zS ?_ GE211.out | refine zS ?_ GE212.out | refine zS ?_ GE222.out) | exact HB.out)) hb); have n4_ := zM (hbox); have n5_ := zM ((by rw [hg]; exact (below_size (by repeat (first | (with_reducible first | exact HB.out | apply zL | apply zP | apply zW | refine zS ?_ GE211.out | refine zS ?_ GE212.out | refine zS ?_ GE222.out) | exact HB.out))) : w.heap.size ≤ gb223)); have n6_ := zM ((by rw [hg]; exact (below_size (by repeat (first | (with_reducible first | exact HB.out | apply zL | apply zP | apply zW | refine zS ?_ GE211.out | refine zS ?_ GE212.out | refine zS ?_ GE222.out) | exact HB.out))) : w.heap.size ≤ gb223)); have n7_ := zM ((by rw [hg]; exact Nat.ne_of_lt (blk_lt (g := gb211) (o := .cells #[.int .u32 0, .int .u64 0, .int .u32 0] 25 (0, 0)) (by (with_reducible repeat (first | refine zN ?_ _ | refine zD ?_ | refine zA ?_ _)); refine blk_far ?_ NB211_222.out _; (with_reducible repeat (first | refine zN ?_ _ | refine zD ?_ | refine zA ?_ _)); refine blk_far ?_ NB211_222.out _; (with_reducible repeat (first | refine zN ?_ _ | refine zD ?_ | refine zA ?_ _)); exact BK211.out)) : gb211 ≠ gb223)); have n8_ := zM ((by rw [hg]; exact Nat.ne_of_gt (blk_lt (g := gb211) (o := .cells #[.int .u32 0, .int .u64 0, .int .u32 0] 25 (0, 0)) (by (with_reducible repeat (first | refine zN ?_ _ | refine zD ?_ | refine zA ?_ _)); refine blk_far ?_ NB211_222.out _; (with_reducible repeat (first | refine zN ?_ _ | refine zD ?_ | refine zA ?_ _)); refine blk_far ?_ NB211_222.out _; (with_reducible repeat (first | refine zN ?_ _ | refine zD ?_ | refine zA ?_ _)); exact BK211.out)) : gb223 ≠ gb211)); have n9_ := zM ((by rw [hg]; exact Nat.ne_of_lt (blk_lt (g := gb212) (o := .cells #[.string t216, .int .i64 t217] 62 (0, 0)) (by (with_reducible repeat (first | refine zN ?_ _ | refine zD ?_ | refine zA ?_ _)); refine blk_far ?_ NB212_222.out _; (with_reducible repeat (first | refine zN ?_ _ | refine zD ?_ | refine zA ?_ _)); refine blk_far ?_ NB212_222.out _; (with_reducible repeat (first | refine zN ?_ _ | refine zD ?_ | refine zA ?_ _)); exact BK212.out)) : gb212 ≠ gb223)); have n10_ := zM ((by rw [hg]; exact Nat.ne_of_gt (blk_lt (g := gb212) (o := .cells #[.string t216, .int .i64 t217] 62 (0, 0)) (by (with_reducible repeat (first | refine zN ?_ _ | refine zD ?_ | refine zA ?_ _)); refine blk_far ?_ NB212_222.out _; (with_reducible repeat (first | refine zN ?_ _ | refine zD ?_ | refine zA ?_ _)); refine blk_far ?_ NB212_222.out _; (with_reducible repeat (first | refine zN ?_ _ | refine zD ?_ | refine zA ?_ _)); exact BK212.out)) : gb223 ≠ gb212)); have n11_ := zM ((by rw [hg]; exact Nat.ne_of_lt (blk_lt (g := gb222) (o := .cells #[.string t219, .int .i64 t220] 62 (0, 0)) (by (with_reducible repeat (first | refine zN ?_ _ | refine zD ?_ | refine zA ?_ _)); refine blk_put (cs := #[.string t219, .int .i64 0]) ?_ 1 _ rfl; (with_reducible repeat (first | refine zN ?_ _ | refine zD ?_ | refine zA ?_ _)); refine blk_put (cs := #[.string (⟨#[]⟩ : ByteArray), .int .i64 0]) ?_ 0 _ rfl; (with_reducible repeat (first | refine zN ?_ _ | refine zD ?_ | refine zA ?_ _)); exact BK222.out)) : gb222 ≠ gb223)); have n12_ := zM ((by rw [hg]; exact Nat.ne_of_gt (blk_lt (g := gb222) (o := .cells #[.string t219, .int .i64 t220] 62 (0, 0)) (by (with_reducible repeat (first | refine zN ?_ _ | refine zD ?_ | refine zA ?_ _)); refine blk_put (cs := #[.string t219, .int .i64 0]) ?_ 1 _ rfl; (with_reducible repeat (first | refine zN ?_ _ | refine zD ?_ | refine zA ?_ _)); refine blk_put (cs := #[.string (⟨#[]⟩ : ByteArray), .int .i64 0]) ?_ 0 _ rfl; (with_reducible repeat (first | refine zN ?_ _ | refine zD ?_ | refine zA ?_ _)); exact BK222.out)) : gb223 ≠ gb222)); clear BK211; clear BK212; clear BK222; clear HB; have BK211 := n0_; have BK212 := n1_; have BK222 := n2_; have HB := n3_; have BK223 := n4_; have GW223 := n5_; have GE223 := n6_; have NB211_223 := n7_; have NB223_211 := n8_; have NB212_223 := n9_; have NB223_212 := n10_; have NB222_223 := n11_; have NB223_222 := n12_; clear n0_ n1_ n2_ n3_ n4_ n5_ n6_ n7_ n8_ n9_ n10_ n11_ n12_; clear hb hbox hg; have hnb105 := NB223_211.out; have hnc105 := NB211_223.out; have hnb106 := NB223_212.out; have hnc106 := NB212_223.out; have hnb107 := NB223_222.out; have hnc107 := NB222_223.out; have hcz108_0 : w104.cell? ⟨gb223, 0, none⟩ = some (.int .u32 0) := (zC BK223.out 0).trans rfl; have hcz108_1 : w104.cell? ⟨gb223, 1, none⟩ = some (.int .u64 0) := (zC BK223.out 1).trans rfl; have hcz108_2 : w104.cell? ⟨gb223, 2, none⟩ = some (.int .u32 0) := (zC BK223.out 2).trans rfl; have hfz108_0 := zF BK223.out 0; have hfz108_1 := zF BK223.out 1; have hfz108_2 := zF BK223.out 2) | ((with_reducible refine gate_callee (f := 11) rfl ?_); refine goesL_ (some 51) rfl rfl Tryd.func11 (by kernel_rfl) rfl #[.string a0, .int .u32 ((t215) % 4294967296)] rfl (by (try simp only [zY, List.map_cons, List.map_nil]); first | done | rfl | (simp only [zV, zX]; rfl)) ?_; (with_reducible refine (lodestoneref09_Keys.calls k a0 ((t215) % 4294967296) t224 t225 _ A8.out).mono ?_); rintro e w109 ⟨rfl, hb⟩; refine ⟨_, rfl, ?_⟩; have n0_ := zM (zB (g := gb211) (o := .cells #[.int .u32 0, .int .u64 0, .int .u32 0] 25 (0, 0)) (by (with_reducible repeat (first | refine zN ?_ _ | refine zD ?_ | refine zA ?_ _)); refine blk_far ?_ NB211_223.out _; (with_reducible repeat (first | refine zN ?_ _ | refine zD ?_ | refine zA ?_ _)); refine blk_far ?_ NB211_223.out _; (with_reducible repeat (first | refine zN ?_ _ | refine zD ?_ | refine zA ?_ _)); refine blk_far ?_ NB211_223.out _; (with_reducible repeat (first | refine zN ?_ _ | refine zD ?_ | refine zA ?_ _)); exact BK211.out) hb); have n1_ := zM (zB (g := gb212) (o := .cells #[.string t216, .int .i64 t217] 62 (0, 0)) (by (with_reducible repeat (first | refine zN ?_ _ | refine zD ?_ | refine zA ?_ _)); refine blk_far ?_ NB212_223.out _; (with_reducible repeat (first | refine zN ?_ _ | refine zD ?_ | refine zA ?_ _)); refine blk_far ?_ NB212_223.out _; (with_reducible repeat (first | refine zN ?_ _ | refine zD ?_ | refine zA ?_ _)); refine blk_far ?_ NB212_223.out _; (with_reducible repeat (first | refine zN ?_ _ | refine zD ?_ | refine zA ?_ _)); exact BK212.out) hb); have n2_ := zM (zB (g := gb222) (o := .cells #[.string t219, .int .i64 t220] 62 (0, 0)) (by (with_reducible repeat (first | refine zN ?_ _ | refine zD ?_ | refine zA ?_ _)); refine blk_far ?_ NB222_223.out _; (with_reducible repeat (first | refine zN ?_ _ | refine zD ?_ | refine zA ?_ _)); refine blk_far ?_ NB222_223.out _; (with_reducible repeat (first | refine zN ?_ _ | refine zD ?_ | refine zA ?_ _)); refine blk_far ?_ NB222_223.out _; (with_reducible repeat (first | refine zN ?_ _ | refine zD ?_ | refine zA ?_ _)); exact BK222.out) hb); have n3_ := zM (zB (g := gb223) (o := .cells #[.int .u32 ((t215) % 4294967296), .int .u64 t218, .int .u32 ((t221) % 4294967296)] 25 (0, 0)) (by (with_reducible repeat (first | refine zN ?_ _ | refine zD ?_ | refine zA ?_ _)); refine blk_put (cs := #[.int .u32 ((t215) % 4294967296), .int .u64 t218, .int .u32 0]) ?_ 2 _ rfl; (with_reducible repeat (first | refine zN ?_ _ | refine zD ?_ | refine zA ?_ _)); refine blk_put (cs := #[.int .u32 ((t215) % 4294967296), .int .u64 0, .int .u32 0]) ?_ 1 _ rfl; (with_reducible repeat (first | refine zN ?_ _ | refine zD ?_ | refine zA ?_ _)); refine blk_put (cs := #[.int .u32 0, .int .u64 0, .int .u32 0]) ?_ 0 _ rfl; (with_reducible repeat (first | refine zN ?_ _ | refine zD ?_ | refine zA ?_ _)); exact BK223.out) hb); have n4_ := zM (below_step (by repeat (first | (with_reducible first | exact HB.out | apply zL | apply zP | apply zW | refine zS ?_ GE211.out | refine zS ?_ GE212.out | refine zS ?_ GE222.out | refine zS ?_ GE223.out) | exact HB.out)) hb); clear BK211; clear BK212; clear BK222; clear BK223; clear HB; have BK211 := n0_; have BK212 := n1_; have BK222 := n2_; have BK223 := n3_; have HB := n4_; clear n0_ n1_ n2_ n3_ n4_; (try clear hb); (try clear hb2); (try clear hk); (try clear hi)))
      have n0_ := zM (zD BK211.out)
      have n1_ := zM (zD BK212.out)
      have n2_ := zM (zD BK222.out)
      have n3_ := zM (zD BK223.out)
      have n4_ := zM (zW HB.out)
      clear BK211
      clear BK212
      clear BK222
      clear BK223
      clear HB
      have BK211 := n0_
      have BK212 := n1_
      have BK222 := n2_
      have BK223 := n3_
      have HB := n4_
      clear n0_ n1_ n2_ n3_ n4_
      refine start_ (n := 12) (S := fun w' => True) (ds := []) zb1_12 (by kernel_rfl) rfl rfl trivial (fun hHeld => ?_); refine with_tabW lodestoneref11_Get.tab9 lodestoneref11_Get.bits9 (fun HT_ HW_ => ?_)
      generalize w109.drew = w110 at BK211 BK212 BK222 BK223 HB hHeld ⊢
      refine pure_ (i := 0) (N := some 54) (v := ?_) (a' := ?_) zb1_13 rfl rfl (any_of HT_.out (by kernel_rfl)) (fun _ _ _ h => h) (Or.inl ⟨by rfl, ?_⟩) ?_ ?_
      rotate_left
      ·intro w'
       go_simp
       with_reducible rfl
      rotate_left
      ·simp only [Act.put, zT, zZ, zU, i64_w, i32_w]
       rfl
      refine pure_ (i := 1) (N := some 55) (v := ?_) (a' := ?_) zb1_14 rfl rfl (any_of HT_.out (by kernel_rfl)) (fun _ _ _ h => h) (Or.inl ⟨by rfl, ?_⟩) ?_ ?_
      rotate_left
      ·intro w'
       go_simp
       with_reducible rfl
      rotate_left
      ·simp only [Act.put, zT, zZ, zU, i64_w, i32_w]
       rfl
      refine pure_ (i := 2) (N := some 56) (v := ?_) (a' := ?_) zb1_15 rfl rfl (any_of HT_.out (by kernel_rfl)) (fun _ _ _ h => h) (Or.inl ⟨by rfl, ?_⟩) ?_ ?_
      rotate_left
      ·intro w'
       go_simp
       with_reducible rfl
      rotate_left
      ·simp only [Act.put, zT, zZ, zU, i64_w, i32_w]
       rfl
      refine pure_ (i := 3) (N := some 57) (v := ?_) (a' := ?_) zb1_16 rfl rfl (any_of HT_.out (by kernel_rfl)) (fun _ _ _ h => h) (Or.inl ⟨by rfl, ?_⟩) ?_ ?_
      rotate_left
      ·intro w'
       go_simp
       with_reducible rfl
      rotate_left
      ·simp only [Act.put, zT, zZ, zU, i64_w, i32_w]
       rfl
      refine pure_ (i := 5) (N := some 59) (v := ?_) (a' := ?_) zb1_17 rfl rfl (any_of HT_.out (by kernel_rfl)) (fun _ _ _ h => h) (Or.inl ⟨by rfl, ?_⟩) ?_ ?_
      rotate_left
      ·intro w'
       go_simp
       with_reducible rfl
      rotate_left
      ·simp only [Act.put, zT, zZ, zU, i64_w, i32_w]
       rfl
      refine pure_ (i := 6) (N := some 60) (v := ?_) (a' := ?_) zb1_18 rfl rfl (any_of HT_.out (by kernel_rfl)) (fun _ _ _ h => h) (Or.inl ⟨by rfl, ?_⟩) ?_ ?_
      rotate_left
      ·intro w'
       go_simp
       with_reducible rfl
      rotate_left
      ·simp only [Act.put, zT, zZ, zU, i64_w, i32_w]
       rfl
      refine pure_ (i := 9) (N := some 63) (v := ?_) (a' := ?_) zb1_19 rfl rfl (any_of HT_.out (by kernel_rfl)) (fun _ _ _ h => h) (Or.inl ⟨by rfl, ?_⟩) ?_ ?_
      rotate_left
      ·intro w'
       go_simp
       with_reducible rfl
      rotate_left
      ·simp only [Act.put, zT, zZ, zU, i64_w, i32_w]
       rfl
      refine pure_ (i := 10) (N := some 64) (v := ?_) (a' := ?_) zb1_20 rfl rfl (any_of HT_.out (by kernel_rfl)) (fun _ _ _ h => h) (Or.inl ⟨by rfl, ?_⟩) ?_ ?_
      rotate_left
      ·intro w'
       go_simp
       with_reducible rfl
      rotate_left
      ·simp only [Act.put, zT, zZ, zU, i64_w, i32_w]
       rfl
      refine one_ (i := 4) (N := some 58) zb1_21 rfl rfl (one_of HT_.out (by kernel_rfl)) (by decide) (fun K hK => ?_)
      refine goes_ Tryd.func24 (by kernel_rfl) rfl #[.int .u64 ((a1) % 4294967296), .int .i64 4] (by rfl) rfl rfl (by (try simp only [zY, List.map_cons, List.map_nil]); first | done | rfl | (show #[Value.int IntKind.u64 (IntKind.u64.wrap (a1 % 4294967296)), Value.int IntKind.i64 4] = _; rw [XB.wu64s (by omega) (by omega)]) | (simp only [zV, zX]; rfl)) ?_
      with_reducible refine (lodestoneref04_High.calls k ((a1) % 4294967296) 4 t226 _ A9.out).mono ?_
      rintro e w111 ⟨rfl, hb⟩
      refine ⟨_, rfl, ?_⟩
      have n0_ := zM (zB (g := gb211) (o := .cells #[.int .u32 0, .int .u64 0, .int .u32 0] 25 (0, 0)) (by (with_reducible repeat (first | refine zN ?_ _ | refine zD ?_ | refine zA ?_ _)); exact BK211.out) hb)
      have n1_ := zM (zB (g := gb212) (o := .cells #[.string t216, .int .i64 t217] 62 (0, 0)) (by (with_reducible repeat (first | refine zN ?_ _ | refine zD ?_ | refine zA ?_ _)); exact BK212.out) hb)
      have n2_ := zM (zB (g := gb222) (o := .cells #[.string t219, .int .i64 t220] 62 (0, 0)) (by (with_reducible repeat (first | refine zN ?_ _ | refine zD ?_ | refine zA ?_ _)); exact BK222.out) hb)
      have n3_ := zM (zB (g := gb223) (o := .cells #[.int .u32 ((t215) % 4294967296), .int .u64 t218, .int .u32 ((t221) % 4294967296)] 25 (0, 0)) (by (with_reducible repeat (first | refine zN ?_ _ | refine zD ?_ | refine zA ?_ _)); exact BK223.out) hb)
      have n4_ := zM (below_step (by repeat (first | (with_reducible first | exact HB.out | apply zL | apply zP | apply zW | refine zS ?_ GE211.out | refine zS ?_ GE212.out | refine zS ?_ GE222.out | refine zS ?_ GE223.out) | exact HB.out)) hb)
      clear BK211
      clear BK212
      clear BK222
      clear BK223
      clear HB
      have BK211 := n0_
      have BK212 := n1_
      have BK222 := n2_
      have BK223 := n3_
      have HB := n4_
      clear n0_ n1_ n2_ n3_ n4_
      (try clear hb)
      (try clear hb2)
      (try clear hk)
      (try clear hi)
      refine hK.out _ _ trivial (fun hHeld => ?_)
      clear hK K
      refine norm_ (a' := ?_) ?_ ?_
      rotate_left
      ·show Act.put _ (some 58) _ = _
       simp only [Act.put, zT, zZ, zU, i64_w, i32_w]
       rfl
      refine pure_ (i := 7) (N := some 61) (v := ?_) (a' := ?_) zb1_22 rfl rfl (any_of HT_.out (by kernel_rfl)) (fun _ _ _ h => h) (Or.inl ⟨by rfl, ?_⟩) ?_ ?_
      rotate_left
      ·intro w'
       go_simp
       with_reducible rfl
      rotate_left
      ·simp only [Act.put, zT, zZ, zU, i64_w, i32_w]
       rfl
      refine one_ (i := 8) (N := some 62) zb1_23 rfl rfl (one_of HT_.out (by kernel_rfl)) (by decide) (fun K hK => ?_)
      refine goes_ Tryd.func12 (by kernel_rfl) rfl #[.string t225, .string (t226 ++ (a2.extract 4 480))] (by rfl) rfl rfl (by (try simp only [zY, List.map_cons, List.map_nil]); first | done | rfl | (simp only [zV, zX]; rfl)) ?_
      with_reducible refine (lodestoneref01_Tag.calls t225 (t226 ++ (a2.extract 4 480)) t227 _ A13.out).mono ?_
      rintro e w112 ⟨rfl, hb⟩
      refine ⟨_, rfl, ?_⟩
      have n0_ := zM (zB (g := gb211) (o := .cells #[.int .u32 0, .int .u64 0, .int .u32 0] 25 (0, 0)) (by (with_reducible repeat (first | refine zN ?_ _ | refine zD ?_ | refine zA ?_ _)); exact BK211.out) hb)
      have n1_ := zM (zB (g := gb212) (o := .cells #[.string t216, .int .i64 t217] 62 (0, 0)) (by (with_reducible repeat (first | refine zN ?_ _ | refine zD ?_ | refine zA ?_ _)); exact BK212.out) hb)
      have n2_ := zM (zB (g := gb222) (o := .cells #[.string t219, .int .i64 t220] 62 (0, 0)) (by (with_reducible repeat (first | refine zN ?_ _ | refine zD ?_ | refine zA ?_ _)); exact BK222.out) hb)
      have n3_ := zM (zB (g := gb223) (o := .cells #[.int .u32 ((t215) % 4294967296), .int .u64 t218, .int .u32 ((t221) % 4294967296)] 25 (0, 0)) (by (with_reducible repeat (first | refine zN ?_ _ | refine zD ?_ | refine zA ?_ _)); exact BK223.out) hb)
      have n4_ := zM (below_step (by repeat (first | (with_reducible first | exact HB.out | apply zL | apply zP | apply zW | refine zS ?_ GE211.out | refine zS ?_ GE212.out | refine zS ?_ GE222.out | refine zS ?_ GE223.out) | exact HB.out)) hb)
      clear BK211
      clear BK212
      clear BK222
      clear BK223
      clear HB
      have BK211 := n0_
      have BK212 := n1_
      have BK222 := n2_
      have BK223 := n3_
      have HB := n4_
      clear n0_ n1_ n2_ n3_ n4_
      (try clear hb)
      (try clear hb2)
      (try clear hk)
      (try clear hi)
      refine hK.out _ _ trivial (fun hHeld => ?_)
      clear hK K
      refine norm_ (a' := ?_) ?_ ?_
      rotate_left
      ·show Act.put _ (some 62) _ = _
       simp only [Act.put, zT, zZ, zU, i64_w, i32_w]
       rfl
      refine pure_ (i := 11) (N := some 65) (v := ?_) (a' := ?_) zb1_24 rfl rfl (any_of HT_.out (by kernel_rfl)) (fun _ _ _ h => h) (Or.inl ⟨by rfl, ?_⟩) ?_ ?_
      rotate_left
      ·intro w'
       go_simp
       with_reducible rfl
      rotate_left
      ·simp only [Act.put, zT, zZ, zU, i64_w, i32_w]
       rfl
      refine done_ (done_of HT_.out (by kernel_rfl)) ?_
      have hcz113_0 : w112.cell? ⟨gb211, 0, none⟩ = some (.int .u32 0) := (zC BK211.out 0).trans rfl
      have hcz113_1 : w112.cell? ⟨gb211, 1, none⟩ = some (.int .u64 0) := (zC BK211.out 1).trans rfl
      have hcz113_2 : w112.cell? ⟨gb211, 2, none⟩ = some (.int .u32 0) := (zC BK211.out 2).trans rfl
      have hfz113_0 := zF BK211.out 0
      have hfz113_1 := zF BK211.out 1
      have hfz113_2 := zF BK211.out 2
      try go_wp2
      refine bodyPost_ret (results_ctt rfl _ _ gb211 25 #[.int .u32 0, .int .u64 0, .int .u32 0] (0, 0) _ rfl (by (with_reducible repeat (first | refine zN ?_ _ | refine zD ?_ | refine zA ?_ _)); refine blk_put (cs := #[.int .u32 0, .int .u64 0, .int .u32 0]) ?_ 2 _ rfl; (with_reducible repeat (first | refine zN ?_ _ | refine zD ?_ | refine zA ?_ _)); refine blk_put (cs := #[.int .u32 0, .int .u64 0, .int .u32 0]) ?_ 1 _ rfl; (with_reducible repeat (first | refine zN ?_ _ | refine zD ?_ | refine zA ?_ _)); refine blk_put (cs := #[.int .u32 0, .int .u64 0, .int .u32 0]) ?_ 0 _ rfl; (with_reducible repeat (first | refine zN ?_ _ | refine zD ?_ | refine zA ?_ _)); exact BK211.out) Tryd.underlying25 rfl (by kernel_rfl)) rfl ?_
      exact ⟨by first | rfl | (simp [errW_none, errW_some] <;> rfl) | (simp [*, errW_none, errW_some] <;> rfl), by repeat (first | (with_reducible first | exact HB.out | apply zL | apply zP | apply zW | refine zS ?_ GE211.out | refine zS ?_ GE212.out | refine zS ?_ GE222.out | refine zS ?_ GE223.out) | exact HB.out)⟩
    ·rw [if_neg c12] at H
     exact absurd H (by simp)
   ·rw [if_neg c11] at H
    exact absurd H (by simp)
  ·rw [if_neg c10] at H
   exact absurd H (by simp)
 ·rw [if_neg c4] at H
  have c4b0 : ((a2.size : Int) == 512) = false := beq_eq_false_iff_ne.mpr c4
  have c4b1 : ((a2.size : Int) != 512) = true := bne_iff_ne.mpr c4
  simp only [Option.some.injEq, Prod.mk.injEq] at H
  obtain ⟨rfl, rfl, rfl, rfl, rfl⟩ := H
  go_enter Tryd.func13, Tryd.ntmps13
  go_wp2_with (first | ((with_reducible refine gate_dst (N := 6) rfl ?_); refine box_event ?hg (N := 6) ?hd (cs := #[.int .u32 0, .int .u64 0, .int .u32 0]) (t := 25) ?hr ?_; (case hd => rfl); (case hg => rfl); (case hr => first | (go_simp; done) | (go_simp; rfl)); intro gb211 hg w114 hbox hb; have n0_ := zM (below_step (by repeat (first | (with_reducible first | exact HB.out | apply zL | apply zP | apply zW) | exact HB.out)) hb); have n1_ := zM (hbox); have n2_ := zM ((by rw [hg]; exact (below_size (by repeat (first | (with_reducible first | exact HB.out | apply zL | apply zP | apply zW) | exact HB.out))) : w.heap.size ≤ gb211)); have n3_ := zM ((by rw [hg]; exact (below_size (by repeat (first | (with_reducible first | exact HB.out | apply zL | apply zP | apply zW) | exact HB.out))) : w.heap.size ≤ gb211)); clear HB; have HB := n0_; have BK211 := n1_; have GW211 := n2_; have GE211 := n3_; clear n0_ n1_ n2_ n3_; clear hb hbox hg; have hcz115_0 : w114.cell? ⟨gb211, 0, none⟩ = some (.int .u32 0) := (zC BK211.out 0).trans rfl; have hcz115_1 : w114.cell? ⟨gb211, 1, none⟩ = some (.int .u64 0) := (zC BK211.out 1).trans rfl; have hcz115_2 : w114.cell? ⟨gb211, 2, none⟩ = some (.int .u32 0) := (zC BK211.out 2).trans rfl; have hfz115_0 := zF BK211.out 0; have hfz115_1 := zF BK211.out 1; have hfz115_2 := zF BK211.out 2))
  refine bodyPost_ret (results_ctt rfl _ _ gb211 25 #[.int .u32 0, .int .u64 0, .int .u32 0] (0, 0) _ rfl (by (with_reducible repeat (first | refine zN ?_ _ | refine zD ?_ | refine zA ?_ _)); refine blk_put (cs := #[.int .u32 0, .int .u64 0, .int .u32 0]) ?_ 2 _ rfl; (with_reducible repeat (first | refine zN ?_ _ | refine zD ?_ | refine zA ?_ _)); refine blk_put (cs := #[.int .u32 0, .int .u64 0, .int .u32 0]) ?_ 1 _ rfl; (with_reducible repeat (first | refine zN ?_ _ | refine zD ?_ | refine zA ?_ _)); refine blk_put (cs := #[.int .u32 0, .int .u64 0, .int .u32 0]) ?_ 0 _ rfl; (with_reducible repeat (first | refine zN ?_ _ | refine zD ?_ | refine zA ?_ _)); exact BK211.out) Tryd.underlying25 rfl (by kernel_rfl)) rfl ?_
  exact ⟨by first | rfl | (simp [errW_none, errW_some] <;> rfl) | (simp [*, errW_none, errW_some] <;> rfl), by repeat (first | (with_reducible first | exact HB.out | apply zL | apply zP | apply zW | refine zS ?_ GE211.out) | exact HB.out)⟩
end Go.Proofs.YtgbhjkkfleeodaaDoor.PBlockPuts
