import Derived.Test.YtgbhjkkfleeodaaDoorPBlockPutsx0
import Derived.Test.YtgbhjkkfleeodaaDoorPBlockPutsx2
import Derived.Test.YtgbhjkkfleeodaaDoorPBlockPutsx3
import Derived.Test.YtgbhjkkfleeodaaDoorXB
namespace Go.Proofs.YtgbhjkkfleeodaaDoor.PBlockPuts
open Go.RowKit Go.Proofs.YtgbhjkkfleeodaaDoorW.PrintWords Go.Proofs.YtgbhjkkfleeodaaDoorW.PrintLast Go.Proofs.YtgbhjkkfleeodaaDoorW.PrintMore
open Go.Proofs.YtgbhjkkfleeodaaDoorW.PrintWords renaming blk_drewN → zN, blk_drew → zD, blk_alloc → zA, blk_cell → zC, blk_frozen → zF, below_set → zS, below_alloc → zL, below_drew1 → zW, pw_below_drewN → zP, blk_below → zB, keep_drewN → zK
open Go.Proofs.YtgbhjkkfleeodaaDoorW.PrintWords.Aside0 renaming mk → zM
open List renaming setIfInBounds_toArray → zT, set_cons_zero → zZ, set_cons_succ → zU, length_drop → zV, length_take → zX, map_toArray → zY
attribute [local go_sem] max2_int min2_int max_two min_two max_three min_three max_four min_four
set_option linter.unusedVariables false
set_option linter.unusedSimpArgs false
abbrev zb4_0 : Array Bool := #[false, false, false, false, false, false, false, false, false, false, false, false, false]
abbrev zb4_1 : Array Bool := #[false, true, false, false, false, false, false, false, false, false, false, false, false]
abbrev zb4_2 : Array Bool := #[false, true, true, false, false, false, false, false, false, false, false, false, false]
abbrev zb4_3 : Array Bool := #[false, true, true, true, false, false, false, false, false, false, false, false, false]
abbrev zb4_4 : Array Bool := #[false, true, true, true, true, false, false, false, false, false, false, false, false]
abbrev zb4_5 : Array Bool := #[false, true, true, true, true, true, false, false, false, false, false, false, false]
abbrev zb4_6 : Array Bool := #[false, true, true, true, true, true, false, true, false, false, false, false, false]
abbrev zb4_7 : Array Bool := #[false, true, true, true, true, true, false, true, true, false, false, false, false]
abbrev zb4_8 : Array Bool := #[false, true, true, true, true, true, false, true, true, true, false, false, false]
abbrev zb4_9 : Array Bool := #[true, true, true, true, true, true, false, true, true, true, false, false, false]
abbrev zb4_10 : Array Bool := #[true, true, true, true, true, true, true, true, true, true, false, false, false]
abbrev zb4_11 : Array Bool := #[true, true, true, true, true, true, true, true, true, true, true, false, false]
abbrev zb4_12 : Array Bool := #[true, true, true, true, true, true, true, true, true, true, true, true, false]
abbrev zb4_13 : Array Bool := #[true, true, true, true, true, true, true, true, true, true, true, true, true]
abbrev zb4_14 : Array Bool := #[false, false, false, false, false, false, false, false, false]
abbrev zb4_15 : Array Bool := #[true, false, false, false, false, false, false, false, false]
abbrev zb4_16 : Array Bool := #[true, false, true, false, false, false, false, false, false]
abbrev zb4_17 : Array Bool := #[true, false, true, true, false, false, false, false, false]
abbrev zb4_18 : Array Bool := #[true, false, true, true, true, false, false, false, false]
def block_Head.f (a0 : ByteArray) : Option (Int × Int × Int × Int) := if (a0.size : Int) = 512 then ((code_Read.f a0).bind fun bt146 => ((code_Reader_Small.f bt146.1 bt146.2).bind fun bt149 => ((code_Reader_Big.f bt149.2.1 bt149.2.2).bind fun bt152 => ((code_Reader_Small.f bt152.2.1 bt152.2.2).bind fun bt155 => (some (bt149.1, bt152.1, bt155.1, 0)))))) else (some (0, 0, 0, 2))
set_option maxHeartbeats 8000000 in
set_option maxRecDepth 100000 in
theorem block_Head.calls (a0 : ByteArray) (r1 : Int) (r2 : Int) (r3 : Int) (r4 : Int) (w : World) (h : block_Head.f a0 = some (r1, r2, r3, r4)) :
  Calls Tryd.prog 9 #[.string a0] w fun e w' => e = .returned (.tuple #[.agg #[.int .u32 r1, .int .u64 r2, .int .u32 r3], .int .i64 r4]) ∧ Below w.heap.size w w' := by
 have hu25 := Tryd.underlying25
 have HB := zM (Below.refl w.heap.size w)
 have H : (if (a0.size : Int) = 512 then ((code_Read.f a0).bind fun bt146 => ((code_Reader_Small.f bt146.1 bt146.2).bind fun bt149 => ((code_Reader_Big.f bt149.2.1 bt149.2.2).bind fun bt152 => ((code_Reader_Small.f bt152.2.1 bt152.2.2).bind fun bt155 => (some (bt149.1, bt152.1, bt155.1, 0)))))) else (some (0, 0, 0, 2))) = some (r1, r2, r3, r4) := h
 clear h
 by_cases c2 : (a0.size : Int) = 512
 ·rw [if_pos c2] at H
  have c2b0 : ((a0.size : Int) == 512) = true := beq_iff_eq.mpr c2
  have c2b1 : ((a0.size : Int) != 512) = false := bne_eq_false_iff_eq.mpr c2
  clear c2
  replace H := Option.bind_eq_some_iff.mp H
  obtain ⟨⟨t146, t147⟩, A30, H⟩ := H
  replace H : ((code_Reader_Small.f t146 t147).bind fun bt149 => ((code_Reader_Big.f bt149.2.1 bt149.2.2).bind fun bt152 => ((code_Reader_Small.f bt152.2.1 bt152.2.2).bind fun bt155 => (some (bt149.1, bt152.1, bt155.1, 0))))) = some (r1, r2, r3, r4) := H
  have A3 := zM A30
  clear A30
  replace H := Option.bind_eq_some_iff.mp H
  obtain ⟨⟨t149, t150, t151⟩, A40, H⟩ := H
  replace H : ((code_Reader_Big.f t150 t151).bind fun bt152 => ((code_Reader_Small.f bt152.2.1 bt152.2.2).bind fun bt155 => (some (t149, bt152.1, bt155.1, 0)))) = some (r1, r2, r3, r4) := H
  have A4 := zM A40
  clear A40
  replace H := Option.bind_eq_some_iff.mp H
  obtain ⟨⟨t152, t153, t154⟩, A50, H⟩ := H
  replace H : ((code_Reader_Small.f t153 t154).bind fun bt155 => (some (t149, t152, bt155.1, 0))) = some (r1, r2, r3, r4) := H
  have A5 := zM A50
  clear A50
  replace H := Option.bind_eq_some_iff.mp H
  obtain ⟨⟨t155, t156, t157⟩, A60, H⟩ := H
  replace H : (some (t149, t152, t155, 0)) = some (r1, r2, r3, r4) := H
  have A6 := zM A60
  clear A60
  simp only [Option.some.injEq, Prod.mk.injEq] at H
  obtain ⟨rfl, rfl, rfl, rfl⟩ := H
  go_enter Tryd.func9, Tryd.ntmps9
  go_wp2_with (first | ((with_reducible refine gate_dst (N := 2) rfl ?_); refine box_event ?hg (N := 2) ?hd (cs := #[.int .u32 0, .int .u64 0, .int .u32 0]) (t := 25) ?hr ?_; (case hd => rfl); (case hg => rfl); (case hr => first | (go_simp; done) | (go_simp; rfl)); intro gb145 hg w7 hbox hb; have n0_ := zM (below_step (by repeat (first | (with_reducible first | exact HB.out | apply zL | apply zP | apply zW) | exact HB.out)) hb); have n1_ := zM (hbox); have n2_ := zM ((by rw [hg]; exact (below_size (by repeat (first | (with_reducible first | exact HB.out | apply zL | apply zP | apply zW) | exact HB.out))) : w.heap.size ≤ gb145)); have n3_ := zM ((by rw [hg]; exact (below_size (by repeat (first | (with_reducible first | exact HB.out | apply zL | apply zP | apply zW) | exact HB.out))) : w.heap.size ≤ gb145)); clear HB; have HB := n0_; have BK145 := n1_; have GW145 := n2_; have GE145 := n3_; clear n0_ n1_ n2_ n3_; clear hb hbox hg) | ((with_reducible refine gate_callee (f := 21) rfl ?_); refine goesL_ (some 10) rfl rfl Tryd.func21 (by kernel_rfl) rfl #[.string a0] rfl (by (try simp only [zY, List.map_cons, List.map_nil]); first | done | rfl | (simp only [zV, zX]; rfl)) ?_; (with_reducible refine (code_Read.calls a0 t146 t147 w _ ?side1 A3.out).mono ?_); (case side1 => repeat (first | (with_reducible first | exact HB.out | apply zL | apply zP | apply zW | refine zS ?_ GE145.out) | exact HB.out)); rintro e w8 ⟨g148, rfl, hi, hb, hb2⟩; refine ⟨_, rfl, ?_⟩; have n0_ := zM (zB (g := gb145) (o := .cells #[.int .u32 0, .int .u64 0, .int .u32 0] 25 (0, 0)) (by (with_reducible repeat (first | refine zN ?_ _ | refine zD ?_ | refine zA ?_ _)); exact BK145.out) hb2); have n1_ := zM (hb); have n2_ := zM (hi); have n3_ := zM (IsS89.ne_blk hi (zB (g := gb145) (o := .cells #[.int .u32 0, .int .u64 0, .int .u32 0] 25 (0, 0)) (by (with_reducible repeat (first | refine zN ?_ _ | refine zD ?_ | refine zA ?_ _)); exact BK145.out) hb2) (by decide)); have n4_ := zM (Ne.symm (IsS89.ne_blk hi (zB (g := gb145) (o := .cells #[.int .u32 0, .int .u64 0, .int .u32 0] 25 (0, 0)) (by (with_reducible repeat (first | refine zN ?_ _ | refine zD ?_ | refine zA ?_ _)); exact BK145.out) hb2) (by decide))); clear BK145; clear HB; have BK145 := n0_; have HB := n1_; have HI148 := n2_; have NB148_145 := n3_; have NB145_148 := n4_; clear n0_ n1_ n2_ n3_ n4_; (try clear hb); (try clear hb2); (try clear hk); (try clear hi)) | ((with_reducible refine gate_callee (f := 22) rfl ?_); refine goesL_ (some 12) rfl rfl Tryd.func22 (by kernel_rfl) rfl #[.pointer (some ⟨g148, 0, none⟩)] rfl (by (try simp only [zY, List.map_cons, List.map_nil]); first | done | rfl | (simp only [zV, zX]; rfl)) ?_; (with_reducible refine (code_Reader_Small.calls g148 t146 t147 t149 t150 t151 w _ ?side1 ?side2 A4.out).mono ?_); (case side1 => repeat (first | (with_reducible first | exact HI148.out | apply IsS89.alloc | apply IsS89.drewN | apply IsS89.drew | apply IsS89.set_0 | apply IsS89.set_1 | refine IsS89.far ?_ NB148_145.out _) | exact HI148.out)); (case side2 => repeat (first | (with_reducible first | exact HB.out | apply zL | apply zP | apply zW | refine zS ?_ (IsS89.ge HI148.out) | refine zS ?_ GE145.out) | exact HB.out)); rintro e w9 ⟨rfl, hi, hb, hk⟩; refine ⟨_, rfl, ?_⟩; have n0_ := zM (KeepBut.blk hk (g' := gb145) (o := .cells #[.int .u32 0, .int .u64 0, .int .u32 0] 25 (0, 0)) (by (with_reducible repeat (first | refine zN ?_ _ | refine zD ?_ | refine zA ?_ _)); exact BK145.out) NB145_148.out (by simp)); have n1_ := zM (hb); have n2_ := zM (hi); clear BK145; clear HB; clear HI148; have BK145 := n0_; have HB := n1_; have HI148 := n2_; clear n0_ n1_ n2_; (try clear hb); (try clear hb2); (try clear hk); (try clear hi)) | ((with_reducible refine gate_callee (f := 23) rfl ?_); refine goesL_ (some 14) rfl rfl Tryd.func23 (by kernel_rfl) rfl #[.pointer (some ⟨g148, 0, none⟩)] rfl (by (try simp only [zY, List.map_cons, List.map_nil]); first | done | rfl | (simp only [zV, zX]; rfl)) ?_; (with_reducible refine (code_Reader_Big.calls g148 t150 t151 t152 t153 t154 w _ ?side1 ?side2 A5.out).mono ?_); (case side1 => repeat (first | (with_reducible first | exact HI148.out | apply IsS89.alloc | apply IsS89.drewN | apply IsS89.drew | apply IsS89.set_0 | apply IsS89.set_1 | refine IsS89.far ?_ NB148_145.out _) | exact HI148.out)); (case side2 => repeat (first | (with_reducible first | exact HB.out | apply zL | apply zP | apply zW | refine zS ?_ (IsS89.ge HI148.out) | refine zS ?_ GE145.out) | exact HB.out)); rintro e w10 ⟨rfl, hi, hb, hk⟩; refine ⟨_, rfl, ?_⟩; have n0_ := zM (KeepBut.blk hk (g' := gb145) (o := .cells #[.int .u32 0, .int .u64 0, .int .u32 0] 25 (0, 0)) (by (with_reducible repeat (first | refine zN ?_ _ | refine zD ?_ | refine zA ?_ _)); exact BK145.out) NB145_148.out (by simp)); have n1_ := zM (hb); have n2_ := zM (hi); clear BK145; clear HB; clear HI148; have BK145 := n0_; have HB := n1_; have HI148 := n2_; clear n0_ n1_ n2_; (try clear hb); (try clear hb2); (try clear hk); (try clear hi)) | ((with_reducible refine gate_callee (f := 22) rfl ?_); refine goesL_ (some 16) rfl rfl Tryd.func22 (by kernel_rfl) rfl #[.pointer (some ⟨g148, 0, none⟩)] rfl (by (try simp only [zY, List.map_cons, List.map_nil]); first | done | rfl | (simp only [zV, zX]; rfl)) ?_; (with_reducible refine (code_Reader_Small.calls g148 t153 t154 t155 t156 t157 w _ ?side1 ?side2 A6.out).mono ?_); (case side1 => repeat (first | (with_reducible first | exact HI148.out | apply IsS89.alloc | apply IsS89.drewN | apply IsS89.drew | apply IsS89.set_0 | apply IsS89.set_1 | refine IsS89.far ?_ NB148_145.out _) | exact HI148.out)); (case side2 => repeat (first | (with_reducible first | exact HB.out | apply zL | apply zP | apply zW | refine zS ?_ (IsS89.ge HI148.out) | refine zS ?_ GE145.out) | exact HB.out)); rintro e w11 ⟨rfl, hi, hb, hk⟩; refine ⟨_, rfl, ?_⟩; have n0_ := zM (KeepBut.blk hk (g' := gb145) (o := .cells #[.int .u32 0, .int .u64 0, .int .u32 0] 25 (0, 0)) (by (with_reducible repeat (first | refine zN ?_ _ | refine zD ?_ | refine zA ?_ _)); exact BK145.out) NB145_148.out (by simp)); have n1_ := zM (hb); have n2_ := zM (hi); clear BK145; clear HB; clear HI148; have BK145 := n0_; have HB := n1_; have HI148 := n2_; clear n0_ n1_ n2_; (try clear hb); (try clear hb2); (try clear hk); (try clear hi); have hnb12 := NB145_148.out; have hnc12 := NB148_145.out; have hcz13_0 : w11.cell? ⟨gb145, 0, none⟩ = some (.int .u32 0) := (zC BK145.out 0).trans rfl; have hcz13_1 : w11.cell? ⟨gb145, 1, none⟩ = some (.int .u64 0) := (zC BK145.out 1).trans rfl; have hcz13_2 : w11.cell? ⟨gb145, 2, none⟩ = some (.int .u32 0) := (zC BK145.out 2).trans rfl; have hfz13_0 := zF BK145.out 0; have hfz13_1 := zF BK145.out 1; have hfz13_2 := zF BK145.out 2))
  refine bodyPost_ret (results_ct rfl _ _ gb145 25 #[.int .u32 t149, .int .u64 t152, .int .u32 t155] (0, 0) _ rfl (by (with_reducible repeat (first | refine zN ?_ _ | refine zD ?_ | refine zA ?_ _)); refine blk_put (cs := #[.int .u32 t149, .int .u64 t152, .int .u32 0]) ?_ 2 _ rfl; (with_reducible repeat (first | refine zN ?_ _ | refine zD ?_ | refine zA ?_ _)); refine blk_put (cs := #[.int .u32 t149, .int .u64 0, .int .u32 0]) ?_ 1 _ rfl; (with_reducible repeat (first | refine zN ?_ _ | refine zD ?_ | refine zA ?_ _)); refine blk_put (cs := #[.int .u32 0, .int .u64 0, .int .u32 0]) ?_ 0 _ rfl; (with_reducible repeat (first | refine zN ?_ _ | refine zD ?_ | refine zA ?_ _)); exact BK145.out) Tryd.underlying25 rfl (by kernel_rfl)) rfl ?_
  exact ⟨by first | rfl | (simp [errW_none, errW_some] <;> rfl) | (simp [*, errW_none, errW_some] <;> rfl), by repeat (first | (with_reducible first | exact HB.out | apply zL | apply zP | apply zW | refine zS ?_ (IsS89.ge HI148.out) | refine zS ?_ GE145.out) | exact HB.out)⟩
 ·rw [if_neg c2] at H
  have c2b0 : ((a0.size : Int) == 512) = false := beq_eq_false_iff_ne.mpr c2
  have c2b1 : ((a0.size : Int) != 512) = true := bne_iff_ne.mpr c2
  simp only [Option.some.injEq, Prod.mk.injEq] at H
  obtain ⟨rfl, rfl, rfl, rfl⟩ := H
  go_enter Tryd.func9, Tryd.ntmps9
  go_wp2_with (first | ((with_reducible refine gate_dst (N := 2) rfl ?_); refine box_event ?hg (N := 2) ?hd (cs := #[.int .u32 0, .int .u64 0, .int .u32 0]) (t := 25) ?hr ?_; (case hd => rfl); (case hg => rfl); (case hr => first | (go_simp; done) | (go_simp; rfl)); intro gb145 hg w14 hbox hb; have n0_ := zM (below_step (by repeat (first | (with_reducible first | exact HB.out | apply zL | apply zP | apply zW) | exact HB.out)) hb); have n1_ := zM (hbox); have n2_ := zM ((by rw [hg]; exact (below_size (by repeat (first | (with_reducible first | exact HB.out | apply zL | apply zP | apply zW) | exact HB.out))) : w.heap.size ≤ gb145)); have n3_ := zM ((by rw [hg]; exact (below_size (by repeat (first | (with_reducible first | exact HB.out | apply zL | apply zP | apply zW) | exact HB.out))) : w.heap.size ≤ gb145)); clear HB; have HB := n0_; have BK145 := n1_; have GW145 := n2_; have GE145 := n3_; clear n0_ n1_ n2_ n3_; clear hb hbox hg; have hcz15_0 : w14.cell? ⟨gb145, 0, none⟩ = some (.int .u32 0) := (zC BK145.out 0).trans rfl; have hcz15_1 : w14.cell? ⟨gb145, 1, none⟩ = some (.int .u64 0) := (zC BK145.out 1).trans rfl; have hcz15_2 : w14.cell? ⟨gb145, 2, none⟩ = some (.int .u32 0) := (zC BK145.out 2).trans rfl; have hfz15_0 := zF BK145.out 0; have hfz15_1 := zF BK145.out 1; have hfz15_2 := zF BK145.out 2))
  refine bodyPost_ret (results_ct rfl _ _ gb145 25 #[.int .u32 0, .int .u64 0, .int .u32 0] (0, 0) _ rfl (by (with_reducible repeat (first | refine zN ?_ _ | refine zD ?_ | refine zA ?_ _)); refine blk_put (cs := #[.int .u32 0, .int .u64 0, .int .u32 0]) ?_ 2 _ rfl; (with_reducible repeat (first | refine zN ?_ _ | refine zD ?_ | refine zA ?_ _)); refine blk_put (cs := #[.int .u32 0, .int .u64 0, .int .u32 0]) ?_ 1 _ rfl; (with_reducible repeat (first | refine zN ?_ _ | refine zD ?_ | refine zA ?_ _)); refine blk_put (cs := #[.int .u32 0, .int .u64 0, .int .u32 0]) ?_ 0 _ rfl; (with_reducible repeat (first | refine zN ?_ _ | refine zD ?_ | refine zA ?_ _)); exact BK145.out) Tryd.underlying25 rfl (by kernel_rfl)) rfl ?_
  exact ⟨by first | rfl | (simp [errW_none, errW_some] <;> rfl) | (simp [*, errW_none, errW_some] <;> rfl), by repeat (first | (with_reducible first | exact HB.out | apply zL | apply zP | apply zW | refine zS ?_ GE145.out) | exact HB.out)⟩
def hmac_Same.l0 : Nat → ByteArray → ByteArray → Int → Int → Int → Option (Bool)
 | 0, _, _, _, _, _ => none
 | k + 1, x0, x1, x5, x13, x14 => if x14 < x13 then (if 0 ≤ x14 then (if x14 < (x0.size : Int) then (if x14 < (x1.size : Int) then (hmac_Same.l0 k x0 x1 (Go.bits .or .u8 x5 (Go.bits .xor .u8 (bt x0 x14) (bt x1 x14))) x13 (wrap64 (x14 + 1))) else (none)) else (none)) else (none)) else (some (x5 == 0))
def hmac_Same.f (k : Nat) (a0 : ByteArray) (a1 : ByteArray) : Option (Bool) := if (a0.size : Int) = (a1.size : Int) then (hmac_Same.l0 k a0 a1 0 (a0.size : Int) 0) else (some false)
theorem hmac_Same.mono_l : ∀ k, (∀ y0 y1 y2 y3 y4, LeO (hmac_Same.l0 k y0 y1 y2 y3 y4) (hmac_Same.l0 (k + 1) y0 y1 y2 y3 y4))
 | 0 => fun _ _ _ _ _ r h => by simp [hmac_Same.l0] at h
 | k + 1 => by
  have ih0 := hmac_Same.mono_l k
  ·intro y0 y1 y2 y3 y4
   unfold hmac_Same.l0
   repeat' first
   | (with_reducible exact ih0 _ _ _ _ _)
   | (with_reducible exact LeO.refl _)
   | (with_reducible exact LeO.none _)
   | (with_reducible refine LeO.ite ?_ ?_)
   | (with_reducible refine LeO.bind ?_ (fun _ => ?_))
   | exact ih0 _ _ _ _ _
   | exact LeO.none _
   | refine LeO.ite ?_ ?_
   | refine LeO.bind ?_ (fun _ => ?_)
theorem hmac_Same.mono : ∀ a0 a1 k, LeO (hmac_Same.f k a0 a1) (hmac_Same.f (k + 1) a0 a1) := by
 intro a0 a1 k
 have ih0 := hmac_Same.mono_l k
 unfold hmac_Same.f
 repeat' first
   | (with_reducible exact ih0 _ _ _ _ _)
   | (with_reducible exact LeO.refl _)
   | (with_reducible exact LeO.none _)
   | (with_reducible refine LeO.ite ?_ ?_)
   | (with_reducible refine LeO.bind ?_ (fun _ => ?_))
   | exact ih0 _ _ _ _ _
   | exact LeO.none _
   | refine LeO.ite ?_ ?_
   | refine LeO.bind ?_ (fun _ => ?_)
set_option maxHeartbeats 8000000 in
set_option maxRecDepth 100000 in
theorem hmac_Same.calls (k : Nat) (a0 : ByteArray) (a1 : ByteArray) (r : Bool) (w : World) (h : hmac_Same.f k a0 a1 = some r) :
  Calls Tryd.prog 42 #[.string a0, .string a1] w fun e w' => e = .returned (.bool r) ∧ Drawn0 w w' := by
 have H : (if (a0.size : Int) = (a1.size : Int) then (hmac_Same.l0 k a0 a1 0 (a0.size : Int) 0) else (some false)) = some r := h
 clear h
 by_cases c3 : (a0.size : Int) = (a1.size : Int)
 ·rw [if_pos c3] at H
  have c3b0 : ((a0.size : Int) == (a1.size : Int)) = true := beq_iff_eq.mpr c3
  have c3b1 : ((a0.size : Int) != (a1.size : Int)) = false := bne_eq_false_iff_eq.mpr c3
  have c3b2 : (a0.size == a1.size) = true := by first | simpa using c3 | (simp at c3 ⊢; omega)
  clear c3
  have H' := zM H
  clear H
  go_enter Tryd.func42, Tryd.ntmps42
  go_wp2
  repeat (go_quiet (fail); try go_wp2)
  go_loopg [5, 14] k (fun kq v5 v14 w' => ∃ (x5_1 : Int) (x14_1 : Int), v5 = .int .u8 x5_1 ∧ v14 = .int .i64 x14_1 ∧ Aside0 (hmac_Same.l0 kq a0 a1 x5_1 (a0.size : Int) x14_1 = some r) ∧ Aside0 (kq ≤ k) ∧ Drawn0 w w')
  case atStart => exact ⟨(0), (0), (by first | rfl | (simp; done) | (simp [*]; done)), (by first | rfl | (simp; done) | (simp [*]; done)), H', ⟨Nat.le_refl _⟩, by repeat (first | exact Drawn0.refl _ | apply Drawn0.step)⟩
  case round =>
   clear H'
   try clear p2
   try clear c3
   try clear c3b0
   try clear c3b1
   try clear c3b2
   obtain ⟨x5_1, x14_1, rfl, rfl, HA, HK1, ⟨m1, rfl⟩⟩ := hrel
   cases gk with
   | zero => exact absurd HA.out (by simp [hmac_Same.l0])
   | succ k1 =>
    have H := HA.out
    clear HA
    simp only [hmac_Same.l0] at H
    by_cases c4 : x14_1 < (a0.size : Int)
    ·rw [if_pos c4] at H
     have c4b0 : decide (x14_1 < (a0.size : Int)) = true := decide_eq_true c4
     clear c4
     by_cases c5 : 0 ≤ x14_1
     ·rw [if_pos c5] at H
      have c5b0 : decide (0 ≤ x14_1) = true := decide_eq_true c5
      clear c5
      by_cases c6 : x14_1 < (a0.size : Int)
      ·rw [if_pos c6] at H
       have c6b0 : decide (x14_1 < (a0.size : Int)) = true := decide_eq_true c6
       clear c6
       by_cases c8 : x14_1 < (a1.size : Int)
       ·rw [if_pos c8] at H
        have c8b0 : decide (x14_1 < (a1.size : Int)) = true := decide_eq_true c8
        clear c8
        have H' := zM H
        clear H
        have p7 : 0 ≤ (x14_1 : Int) := of_decide_eq_true (by first | (with_reducible assumption) | assumption)
        have q7 : x14_1 < (a0.size : Int) := of_decide_eq_true (by first | (with_reducible assumption) | assumption)
        have hx7 := bt_at a0 x14_1
        replace p7 := eq_true p7
        replace q7 := eq_true q7
        have p9 : 0 ≤ (x14_1 : Int) := of_decide_eq_true (by first | (with_reducible assumption) | assumption)
        have q9 : x14_1 < (a1.size : Int) := of_decide_eq_true (by first | (with_reducible assumption) | assumption)
        have hx9 := bt_at a1 x14_1
        replace p9 := eq_true p9
        replace q9 := eq_true q9
        go_wp2
        repeat (go_quiet (fail); try go_wp2)
        go_roundg k1
        case measure => have := HK1.out; omega
        case rel => exact ⟨(Go.bits .or .u8 x5_1 (Go.bits .xor .u8 (bt a0 x14_1) (bt a1 x14_1))), (wrap64 (x14_1 + 1)), (by first | rfl | (simp; done) | (simp [*]; done)), (by first | rfl | (simp; done) | (simp [*]; done)), H', ⟨by have := HK1.out; omega⟩, by repeat (first | exact Drawn0.refl _ | apply Drawn0.step)⟩
       ·rw [if_neg c8] at H
        exact absurd H (by simp)
      ·rw [if_neg c6] at H
       exact absurd H (by simp)
     ·rw [if_neg c5] at H
      exact absurd H (by simp)
    ·rw [if_neg c4] at H
     have c4b0 : decide (x14_1 < (a0.size : Int)) = false := decide_eq_false c4
     clear c4
     obtain rfl := Option.some.inj H
     go_wp2
     repeat (go_quiet (fail); try go_wp2)
     go_ret
     exact ⟨by first | rfl | (simp; done) | (simp [*]; done), by repeat (first | exact Drawn0.refl _ | apply Drawn0.step)⟩
 ·rw [if_neg c3] at H
  have c3b0 : ((a0.size : Int) == (a1.size : Int)) = false := beq_eq_false_iff_ne.mpr c3
  have c3b1 : ((a0.size : Int) != (a1.size : Int)) = true := bne_iff_ne.mpr c3
  have c3b2 : (a0.size == a1.size) = false := by first | simpa using c3 | (simp at c3 ⊢; omega)
  obtain rfl := Option.some.inj H
  go_enter Tryd.func42, Tryd.ntmps42
  go_wp2
  repeat (go_quiet (fail); try go_wp2)
  go_ret
  exact ⟨by first | rfl | (simp; done) | (simp [*]; done), by repeat (first | exact Drawn0.refl _ | apply Drawn0.step)⟩
def seal_Get.j0 : Nat → Int → ByteArray → ByteArray → Int → Bool → ByteArray → ByteArray → Option (ByteArray × Int)
 | 0, _, _, _, _, _, _, _ => none
 | k + 1, x1, x2, x3, x10, x14, x159000, x159001 => if x14 = true then (some ((⟨#[]⟩ : ByteArray), 2)) else (if 0 ≤ x10 then (if x10 ≤ (x3.size : Int) then ((seal_tag.f x159000 x159001 x1 x2 (x3.extract 0 (x10 : Int).toNat)).bind fun t160 => ((hmac_Same.f k t160 (x3.extract (x10 : Int).toNat x3.size)).bind fun t161 => (if t161 = true then ((chacha_Turn.f x159000 x2 (x3.extract 0 (x10 : Int).toNat)).bind fun t162 => (some (t162, 0))) else (some ((⟨#[]⟩ : ByteArray), 100))))) else (none)) else (none))
def seal_Get.f (k : Nat) (a0_0 : ByteArray) (a0_1 : ByteArray) (a1 : Int) (a2 : ByteArray) (a3 : ByteArray) : Option (ByteArray × Int) := if (wrap64 ((a3.size : Int) - 32)) < 0 then (seal_Get.j0 k a1 a2 a3 (wrap64 ((a3.size : Int) - 32)) true a0_0 a0_1) else ((chacha_May.f a0_0 a2).bind fun t159 => (seal_Get.j0 k a1 a2 a3 (wrap64 ((a3.size : Int) - 32)) (!t159) a0_0 a0_1))
theorem seal_Get.mono_l : ∀ k, (∀ y0 y1 y2 y3 y4 y5 y6, LeO (seal_Get.j0 k y0 y1 y2 y3 y4 y5 y6) (seal_Get.j0 (k + 1) y0 y1 y2 y3 y4 y5 y6))
 | 0 => fun _ _ _ _ _ _ _ r h => by simp [seal_Get.j0] at h
 | k + 1 => by
  have ih0 := seal_Get.mono_l k
  ·intro y0 y1 y2 y3 y4 y5 y6
   unfold seal_Get.j0
   repeat' first
   | (with_reducible exact ih0 _ _ _ _ _ _ _)
   | (with_reducible exact hmac_Same.mono _ _ _)
   | (with_reducible exact LeO.refl _)
   | (with_reducible exact LeO.none _)
   | (with_reducible refine LeO.ite ?_ ?_)
   | (with_reducible refine LeO.bind ?_ (fun _ => ?_))
   | exact ih0 _ _ _ _ _ _ _
   | exact hmac_Same.mono _ _ _
   | exact LeO.none _
   | refine LeO.ite ?_ ?_
   | refine LeO.bind ?_ (fun _ => ?_)
theorem seal_Get.mono : ∀ a0 a1 a2 a3 a4 k, LeO (seal_Get.f k a0 a1 a2 a3 a4) (seal_Get.f (k + 1) a0 a1 a2 a3 a4) := by
 intro a0 a1 a2 a3 a4 k
 have ih0 := seal_Get.mono_l k
 unfold seal_Get.f
 repeat' first
   | (with_reducible exact ih0 _ _ _ _ _ _ _)
   | (with_reducible exact hmac_Same.mono _ _ _)
   | (with_reducible exact LeO.refl _)
   | (with_reducible exact LeO.none _)
   | (with_reducible refine LeO.ite ?_ ?_)
   | (with_reducible refine LeO.bind ?_ (fun _ => ?_))
   | exact ih0 _ _ _ _ _ _ _
   | exact hmac_Same.mono _ _ _
   | exact LeO.none _
   | refine LeO.ite ?_ ?_
   | refine LeO.bind ?_ (fun _ => ?_)
def seal_Get.T4 : Bool × List (List Nat × List Nat) := (true, [([], []), ([], []), ([], []), ([], []), ([], []), ([3, 4], [3, 4]), ([0, 1, 2, 5], [0, 1, 2, 5]), ([], []), ([], []), ([7, 8], [7, 8]), ([6, 9, 6], [6, 9]), ([10], [10]), ([11, 10], [11])])
def seal_Get.B4 : List Nat := [0, 0, 0, 0, 0, 24, 63, 0, 0, 384, 1023, 2047, 4095]
theorem seal_Get.tab4 : rtab .any (opsOf Tryd.f19 4) = seal_Get.T4 := by kernel_rfl
theorem seal_Get.bits4 : waitsOk seal_Get.T4.2 seal_Get.B4 = true := by kernel_rfl
def seal_Get.T6 : Bool × List (List Nat × List Nat) := (true, [([], []), ([0], [0]), ([], []), ([], []), ([], []), ([3, 4], [3, 4]), ([1, 2, 5], [1, 2, 5]), ([6, 6, 0, 1, 2, 3, 4, 5, 6], [6]), ([7, 0, 1, 2, 3, 4, 5, 6, 7], [])])
def seal_Get.B6 : List Nat := [0, 1, 0, 0, 0, 24, 63, 127, 255]
theorem seal_Get.tab6 : rtab .any (opsOf Tryd.f19 6) = seal_Get.T6 := by kernel_rfl
theorem seal_Get.bits6 : waitsOk seal_Get.T6.2 seal_Get.B6 = true := by kernel_rfl
set_option maxHeartbeats 8000000 in
set_option maxRecDepth 100000 in
theorem seal_Get.calls (k : Nat) (a0_0 : ByteArray) (a0_1 : ByteArray) (a1 : Int) (a2 : ByteArray) (a3 : ByteArray) (r1 : ByteArray) (r2 : Int) (w : World) (hG_ : Go.Proofs.YtgbhjkkfleeodaaDoor.Sha.SL w) (h : seal_Get.f k a0_0 a0_1 a1 a2 a3 = some (r1, r2)) :
  Calls Tryd.prog 19 #[.agg #[.string a0_0, .string a0_1], .int .i64 a1, .string a2, .string a3] w fun e w' => e = .returned (.tuple #[.string r1, .int .i64 r2]) ∧ Below w.heap.size w w' := by
 have HG_ := zM hG_
 clear hG_
 have hu49 := Tryd.underlying49
 have HB := zM (Below.refl w.heap.size w)
 have H : (if (wrap64 ((a3.size : Int) - 32)) < 0 then (seal_Get.j0 k a1 a2 a3 (wrap64 ((a3.size : Int) - 32)) true a0_0 a0_1) else ((chacha_May.f a0_0 a2).bind fun t159 => (seal_Get.j0 k a1 a2 a3 (wrap64 ((a3.size : Int) - 32)) (!t159) a0_0 a0_1))) = some (r1, r2) := h
 clear h
 have HC5 := zM H
 clear H
 go_enter Tryd.func19, Tryd.ntmps19
 go_upto_region 2 with (first | ((with_reducible refine gate_dst (N := 4) rfl ?_); refine box_event ?hg (N := 4) ?hd (cs := #[.string a0_0, .string a0_1]) (t := 49) ?hr ?_; (case hd => rfl); (case hg => rfl); (case hr => first | (go_simp; done) | (go_simp; rfl)); intro gb158 hg w6 hbox hb; have n0_ := zM (below_step (by repeat (first | (with_reducible first | exact HB.out | apply zL | apply zP | apply zW) | exact HB.out)) hb); have n1_ := zM (hbox); have n2_ := zM ((by rw [hg]; exact (below_size (by repeat (first | (with_reducible first | exact HB.out | apply zL | apply zP | apply zW) | exact HB.out))) : w.heap.size ≤ gb158)); have n3_ := zM ((by rw [hg]; exact (below_size (by repeat (first | (with_reducible first | exact HB.out | apply zL | apply zP | apply zW) | exact HB.out))) : w.heap.size ≤ gb158)); clear HB; have HB := n0_; have BK158 := n1_; have GW158 := n2_; have GE158 := n3_; clear n0_ n1_ n2_ n3_; clear hb hbox hg))
 (try simp only [Act.put, zT, zZ, zU])
 go_cut [14] (fun v14 wc => ∃ (kq : Nat) (x14_4 : Bool), v14 = .bool x14_4 ∧ Aside0 (seal_Get.j0 kq a1 a2 a3 (wrap64 ((a3.size : Int) - 32)) x14_4 a0_0 a0_1 = some (r1, r2)) ∧ Aside0 (kq ≤ k) ∧ Aside0 (wc.heap[gb158]? = some (.cells #[.string a0_0, .string a0_1] 49 (0, 0))) ∧ Aside0 (Below w.heap.size w wc))
 case first =>
  have H := HC5.out
  clear HC5
  by_cases c7 : (wrap64 ((a3.size : Int) - 32)) < 0
  ·rw [if_pos c7] at H
   have c7b0 : decide ((wrap64 ((a3.size : Int) - 32)) < 0) = true := decide_eq_true c7
   clear c7
   (first | rw [c7b0] | (simp only [i64_w, i32_w]; rw [c7b0]) | skip)
   have H' := zM H
   clear H
   go_wp2
   go_meet
   case rel => exact ⟨_, (true), (by first | rfl | (simp; done) | (simp [*]; done)), H', ⟨by first | omega | exact Nat.le_refl _⟩, ⟨by (with_reducible repeat (first | refine zN ?_ _ | refine zD ?_ | refine zA ?_ _)); exact BK158.out⟩, ⟨by repeat (first | (with_reducible first | exact HB.out | apply zL | apply zP | apply zW | refine zS ?_ GE158.out) | exact HB.out)⟩⟩
  ·rw [if_neg c7] at H
   have c7b0 : decide ((wrap64 ((a3.size : Int) - 32)) < 0) = false := decide_eq_false c7
   clear c7
   (first | rw [c7b0] | (simp only [i64_w, i32_w]; rw [c7b0]) | skip)
   replace H := Option.bind_eq_some_iff.mp H
   obtain ⟨t159, A80, H⟩ := H
   replace H : (seal_Get.j0 k a1 a2 a3 (wrap64 ((a3.size : Int) - 32)) (!t159) a0_0 a0_1) = some (r1, r2) := H
   have A8 := zM A80
   clear A80
   have H' := zM H
   clear H
   have hcz9_0 : w6.cell? ⟨gb158, 0, none⟩ = some (.string a0_0) := (zC BK158.out 0).trans rfl
   have hcz9_1 : w6.cell? ⟨gb158, 1, none⟩ = some (.string a0_1) := (zC BK158.out 1).trans rfl
   have hfz9_0 := zF BK158.out 0
   have hfz9_1 := zF BK158.out 1
   go_wp2_with (first | (go_at_call 37; (with_reducible refine (chacha_May.calls a0_0 a2 t159 _ A8.out).mono ?_); rintro e w' ⟨rfl, ⟨nd, rfl⟩⟩))
   go_meet
   case rel => exact ⟨_, (!t159), (by first | rfl | (simp; done) | (simp [*]; done)), H', ⟨by first | omega | exact Nat.le_refl _⟩, ⟨by (with_reducible repeat (first | refine zN ?_ _ | refine zD ?_ | refine zA ?_ _)); exact BK158.out⟩, ⟨by repeat (first | (with_reducible first | exact HB.out | apply zL | apply zP | apply zW | refine zS ?_ GE158.out) | exact HB.out)⟩⟩
 case rest =>
  clear HC5
  try clear c1
  try clear p2
  try clear p6
  try clear c7
  try clear c7b0
  try clear hcz9_0
  try clear hcz9_1
  try clear hfz9_0
  try clear hfz9_1
  obtain ⟨kq, x14_4, rfl, HA, HJ4, BK158, HB⟩ := hcut
  cases kq with
  | zero => exact absurd HA.out (by simp [seal_Get.j0])
  | succ kj4 =>
   have H := HA.out
   clear HA
   simp only [seal_Get.j0] at H
   by_cases c10 : x14_4 = true
   ·subst c10
    have H1 : (some ((⟨#[]⟩ : ByteArray), 2)) = some (r1, r2) := by rw [if_pos rfl] at H; exact H
    clear H
    have H := H1
    clear H1
    simp only [Option.some.injEq, Prod.mk.injEq] at H
    obtain ⟨rfl, rfl⟩ := H
    go_wp2
    go_ret2
    exact ⟨by first | rfl | (simp [errW_none, errW_some] <;> rfl) | (simp [*, errW_none, errW_some] <;> rfl), by repeat (first | (with_reducible first | exact HB.out | apply zL | apply zP | apply zW | refine zS ?_ GE158.out) | exact HB.out)⟩
   ·replace c10 := Bool.eq_false_iff.mpr c10
    subst c10
    have H1 : (if 0 ≤ (wrap64 ((a3.size : Int) - 32)) then (if (wrap64 ((a3.size : Int) - 32)) ≤ (a3.size : Int) then ((seal_tag.f a0_0 a0_1 a1 a2 (a3.extract 0 ((wrap64 ((a3.size : Int) - 32)) : Int).toNat)).bind fun t160 => ((hmac_Same.f kj4 t160 (a3.extract ((wrap64 ((a3.size : Int) - 32)) : Int).toNat a3.size)).bind fun t161 => (if t161 = true then ((chacha_Turn.f a0_0 a2 (a3.extract 0 ((wrap64 ((a3.size : Int) - 32)) : Int).toNat)).bind fun t162 => (some (t162, 0))) else (some ((⟨#[]⟩ : ByteArray), 100))))) else (none)) else (none)) = some (r1, r2) := by rw [if_neg (show ¬ (false = true) by decide)] at H; exact H
    clear H
    have H := H1
    clear H1
    obtain ⟨ji11, hji11⟩ : ∃ j_ : Int, (wrap64 ((a3.size : Int) - 32)) = j_ := ⟨_, rfl⟩
    replace H : (if 0 ≤ (ji11) then (if (ji11) ≤ (a3.size : Int) then ((seal_tag.f a0_0 a0_1 a1 a2 (a3.extract 0 ((ji11) : Int).toNat)).bind fun t160 => ((hmac_Same.f kj4 t160 (a3.extract ((ji11) : Int).toNat a3.size)).bind fun t161 => (if t161 = true then ((chacha_Turn.f a0_0 a2 (a3.extract 0 ((ji11) : Int).toNat)).bind fun t162 => (some (t162, 0))) else (some ((⟨#[]⟩ : ByteArray), 100))))) else (none)) else (none)) = some (r1, r2) := by first | (rw [hji11] at H; exact H) | (simp only [hji11] at H ⊢; exact H)
    have hji11w : (IntKind.i64.wrap ((a3.size : Int) - 32)) = ji11 := (i64_w _).trans hji11
    by_cases c12 : 0 ≤ (ji11)
    ·rw [if_pos c12] at H
     have c12b0 := eq_true c12
     have c12b1 : decide (0 ≤ (ji11)) = true := decide_eq_true c12
     clear c12
     by_cases c13 : (ji11) ≤ (a3.size : Int)
     ·rw [if_pos c13] at H
      have c13b0 := eq_true c13
      have c13b1 : decide ((ji11) ≤ (a3.size : Int)) = true := decide_eq_true c13
      clear c13
      replace H := Option.bind_eq_some_iff.mp H
      obtain ⟨t160, A140, H⟩ := H
      replace H : ((hmac_Same.f kj4 t160 (a3.extract ((ji11) : Int).toNat a3.size)).bind fun t161 => (if t161 = true then ((chacha_Turn.f a0_0 a2 (a3.extract 0 ((ji11) : Int).toNat)).bind fun t162 => (some (t162, 0))) else (some ((⟨#[]⟩ : ByteArray), 100)))) = some (r1, r2) := H
      have A14 := zM A140
      clear A140
      have c15b0 := eq_true (of_decide_eq_true (by first | (with_reducible assumption) | assumption) : 0 ≤ (ji11))
      have c16b0 := eq_true (of_decide_eq_true (by first | (with_reducible assumption) | assumption) : (ji11) ≤ (a3.size : Int))
      replace H := Option.bind_eq_some_iff.mp H
      obtain ⟨t161, A170, H⟩ := H
      replace H : (if t161 = true then ((chacha_Turn.f a0_0 a2 (a3.extract 0 ((ji11) : Int).toNat)).bind fun t162 => (some (t162, 0))) else (some ((⟨#[]⟩ : ByteArray), 100))) = some (r1, r2) := H
      have A17 := zM A170
      clear A170
      by_cases c18 : t161 = true
      ·subst c18
       have H1 : ((chacha_Turn.f a0_0 a2 (a3.extract 0 ((ji11) : Int).toNat)).bind fun t162 => (some (t162, 0))) = some (r1, r2) := by rw [if_pos rfl] at H; exact H
       clear H
       have H := H1
       clear H1
       have c19b0 := eq_true (of_decide_eq_true (by first | (with_reducible assumption) | assumption) : 0 ≤ (ji11))
       have c20b0 := eq_true (of_decide_eq_true (by first | (with_reducible assumption) | assumption) : (ji11) ≤ (a3.size : Int))
       replace H := Option.bind_eq_some_iff.mp H
       obtain ⟨t162, A210, H⟩ := H
       replace H : (some (t162, 0)) = some (r1, r2) := H
       have A21 := zM A210
       clear A210
       simp only [Option.some.injEq, Prod.mk.injEq] at H
       obtain ⟨rfl, rfl⟩ := H
       try go_wp2
       have n0_ := zM (zD BK158.out)
       have n1_ := zM (zW HB.out)
       clear BK158
       clear HB
       have BK158 := n0_
       have HB := n1_
       clear n0_ n1_
       refine start_ (n := 13) (S := fun w' => w'.cell? ⟨gb158, 0, none⟩ = some (.string a0_0) ∧ w'.cell? ⟨gb158, 1, none⟩ = some (.string a0_1)) (ds := []) zb4_0 (by kernel_rfl) rfl rfl ⟨(zC BK158.out 0).trans rfl, (zC BK158.out 1).trans rfl⟩ (fun hHeld => ?_); refine with_tabW seal_Get.tab4 seal_Get.bits4 (fun HT_ HW_ => ?_)
       generalize wc.drew = w22 at BK158 HB hHeld ⊢
       refine pure_ (i := 1) (N := some 26) (v := ?_) (a' := ?_) zb4_1 rfl rfl (any_of HT_.out (by kernel_rfl)) (fun _ _ _ h => h) (Or.inl ⟨by rfl, ?_⟩) ?_ ?_
       rotate_left
       ·intro w'
        go_simp
        with_reducible rfl
       rotate_left
       ·simp only [Act.put, zT, zZ, zU, i64_w, i32_w]
        rfl
       refine pure_ (i := 2) (N := some 27) (v := ?_) (a' := ?_) zb4_2 rfl rfl (any_of HT_.out (by kernel_rfl)) (fun _ _ _ h => h) (Or.inl ⟨by rfl, ?_⟩) ?_ ?_
       rotate_left
       ·intro w'
        go_simp
        with_reducible rfl
       rotate_left
       ·simp only [Act.put, zT, zZ, zU, i64_w, i32_w]
        rfl
       refine pure_ (i := 3) (N := some 28) (v := ?_) (a' := ?_) zb4_3 rfl rfl (any_of HT_.out (by kernel_rfl)) (fun _ _ _ h => h) (Or.inl ⟨by rfl, ?_⟩) ?_ ?_
       rotate_left
       ·intro w'
        go_simp
        with_reducible rfl
       rotate_left
       ·simp only [Act.put, zT, zZ, zU, i64_w, i32_w]
        rfl
       refine pure_ (i := 4) (N := some 29) (v := ?_) (a' := ?_) zb4_4 rfl rfl (any_of HT_.out (by kernel_rfl)) (fun _ _ _ h => h) (Or.inl ⟨by rfl, ?_⟩) ?_ ?_
       rotate_left
       ·intro w'
        go_simp
        with_reducible rfl
       rotate_left
       ·simp only [Act.put, zT, zZ, zU, i64_w, i32_w]
        rfl
       refine pure_ (i := 5) (N := some 30) (v := ?_) (a' := ?_) zb4_5 rfl rfl (any_of HT_.out (by kernel_rfl)) (fun _ _ _ h => h) (Or.inl ⟨by rfl, ?_⟩) ?_ ?_
       rotate_left
       ·intro w'
        go_simp
        with_reducible rfl
       rotate_left
       ·simp only [Act.put, zT, zZ, zU, i64_w, i32_w]
        rfl
       refine pure_ (i := 7) (N := some 32) (v := ?_) (a' := ?_) zb4_6 rfl rfl (any_of HT_.out (by kernel_rfl)) (fun _ _ _ h => h) (Or.inl ⟨by rfl, ?_⟩) ?_ ?_
       rotate_left
       ·intro w'
        go_simp
        with_reducible rfl
       rotate_left
       ·simp only [Act.put, zT, zZ, zU, i64_w, i32_w]
        rfl
       refine pure_ (i := 8) (N := some 33) (v := ?_) (a' := ?_) zb4_7 rfl rfl (any_of HT_.out (by kernel_rfl)) (fun _ _ _ h => h) (Or.inl ⟨by rfl, ?_⟩) ?_ ?_
       rotate_left
       ·intro w'
        go_simp
        with_reducible rfl
       rotate_left
       ·simp only [Act.put, zT, zZ, zU, i64_w, i32_w]
        rfl
       refine pure_ (i := 9) (N := some 34) (v := ?_) (a' := ?_) zb4_8 rfl rfl (any_of HT_.out (by kernel_rfl)) (fun _ _ _ h => h) (Or.inl ⟨by rfl, ?_⟩) ?_ ?_
       rotate_left
       ·intro w'
        go_simp
        with_reducible rfl
       rotate_left
       ·simp only [Act.put, zT, zZ, zU, i64_w, i32_w]
        rfl
       refine take_ (i := 0) (N := some 25) (v := ?_) (a' := ?_) zb4_9 rfl rfl (take_ofW HT_.out HW_.out (by kernel_rfl)) (fun _ _ _ h => h) (Or.inl ⟨by rfl, ?_⟩) hHeld ?_ ?_
       rotate_left
       ·rintro w' ⟨s0, s1⟩
        go_simp
        with_reducible rfl
       rotate_left
       ·simp only [Act.put, zT, zZ, zU, i64_w, i32_w]
        rfl
       refine one_ (i := 6) (N := some 31) zb4_10 rfl rfl (one_of HT_.out (by kernel_rfl)) (by decide) (fun K hK => ?_)
       refine goes_ Tryd.func39 (by kernel_rfl) rfl #[.agg #[.string a0_0, .string a0_1], .int .i64 a1, .string a2, .string (a3.extract 0 ((ji11) : Int).toNat)] (by rfl) rfl rfl (by (try simp only [zY, List.map_cons, List.map_nil]); first | done | (simp only [hji11]; rfl) | rfl | (simp only [zV, zX]; rfl)) ?_
       with_reducible refine (seal_tag.calls a0_0 a0_1 a1 a2 (a3.extract 0 ((ji11) : Int).toNat) t160 _ ?side1 A14.out).mono ?_
       (case side1 => exact Go.Proofs.YtgbhjkkfleeodaaDoor.Sha.SL.below HG_.out (by repeat (first | (with_reducible first | exact HB.out | apply zL | apply zP | apply zW | refine zS ?_ GE158.out) | exact HB.out)))
       rintro e w23 ⟨rfl, hb⟩
       refine ⟨_, rfl, ?_⟩
       have n0_ := zM (zB (g := gb158) (o := .cells #[.string a0_0, .string a0_1] 49 (0, 0)) (by (with_reducible repeat (first | refine zN ?_ _ | refine zD ?_ | refine zA ?_ _)); exact BK158.out) hb)
       have n1_ := zM (below_step (by repeat (first | (with_reducible first | exact HB.out | apply zL | apply zP | apply zW | refine zS ?_ GE158.out) | exact HB.out)) hb)
       clear BK158
       clear HB
       have BK158 := n0_
       have HB := n1_
       clear n0_ n1_
       (try clear hb)
       (try clear hb2)
       (try clear hk)
       (try clear hi)
       refine hK.out _ _ ⟨(zC BK158.out 0).trans rfl, (zC BK158.out 1).trans rfl⟩ (fun hHeld => ?_)
       clear hK K
       refine norm_ (a' := ?_) ?_ ?_
       rotate_left
       ·show Act.put _ (some 31) _ = _
        simp only [Act.put, zT, zZ, zU, i64_w, i32_w]
        rfl
       refine one_ (i := 10) (N := some 35) zb4_11 rfl rfl (one_of HT_.out (by kernel_rfl)) (by decide) (fun K hK => ?_)
       refine goes_ Tryd.func42 (by kernel_rfl) rfl #[.string t160, .string (a3.extract ((ji11) : Int).toNat a3.size)] (by rfl) rfl rfl (by (try simp only [zY, List.map_cons, List.map_nil]); first | done | (simp only [hji11]; rfl) | rfl | (simp only [zV, zX]; rfl)) ?_
       with_reducible refine (hmac_Same.calls kj4 t160 (a3.extract ((ji11) : Int).toNat a3.size) true _ A17.out).mono ?_
       rintro e w' ⟨rfl, ⟨nd, rfl⟩⟩
       refine ⟨_, rfl, ?_⟩
       refine hK.out _ _ ⟨(zC BK158.out 0).trans rfl, (zC BK158.out 1).trans rfl⟩ (fun hHeld => ?_)
       clear hK K
       refine norm_ (a' := ?_) ?_ ?_
       rotate_left
       ·show Act.put _ (some 35) _ = _
        simp only [Act.put, zT, zZ, zU, i64_w, i32_w]
        rfl
       refine pure_ (i := 11) (N := some 36) (v := ?_) (a' := ?_) zb4_12 rfl rfl (any_of HT_.out (by kernel_rfl)) (fun _ _ _ h => h) (Or.inl ⟨by rfl, ?_⟩) ?_ ?_
       rotate_left
       ·intro w'
        go_simp
        with_reducible rfl
       rotate_left
       ·simp only [Act.put, zT, zZ, zU, i64_w, i32_w]
        rfl
       refine pure_ (i := 12) (N := some 24) (v := ?_) (a' := ?_) zb4_13 rfl rfl (any_of HT_.out (by kernel_rfl)) (fun _ _ _ h => h) (Or.inl ⟨by rfl, ?_⟩) ?_ ?_
       rotate_left
       ·intro w'
        go_simp
        with_reducible rfl
       rotate_left
       ·simp only [Act.put, zT, zZ, zU, i64_w, i32_w]
        rfl
       refine done_ (done_of HT_.out (by kernel_rfl)) ?_
       try go_wp2
       (try (rw [drewN_self w23]; generalize hq_ : World.drewN w23 _ = w23; have n0_ : Aside0 (w23.heap[gb158]? = some (.cells #[.string a0_0, .string a0_1] 49 (0, 0))) := ⟨by rw [← hq_]; exact (by (with_reducible repeat (first | refine zN ?_ _ | refine zD ?_ | refine zA ?_ _)); exact BK158.out)⟩; have n1_ : Aside0 (Below w.heap.size w w23) := ⟨by rw [← hq_]; exact (by repeat (first | (with_reducible first | exact HB.out | apply zL | apply zP | apply zW | refine zS ?_ GE158.out) | exact HB.out))⟩; clear BK158 HB hq_; have BK158 := n0_; have HB := n1_; clear n0_ n1_))
       have n0_ := zM (zD BK158.out)
       have n1_ := zM (zW HB.out)
       clear BK158
       clear HB
       have BK158 := n0_
       have HB := n1_
       clear n0_ n1_
       refine start_ (n := 9) (S := fun w' => w'.cell? ⟨gb158, 0, none⟩ = some (.string a0_0) ∧ w'.cell? ⟨gb158, 1, none⟩ = some (.string a0_1)) (ds := []) zb4_14 (by kernel_rfl) rfl rfl ⟨(zC BK158.out 0).trans rfl, (zC BK158.out 1).trans rfl⟩ (fun hHeld => ?_); refine with_tabW seal_Get.tab6 seal_Get.bits6 (fun HT_ HW_ => ?_)
       generalize w23.drew = w24 at BK158 HB hHeld ⊢
       refine pure_ (i := 0) (N := some 37) (v := ?_) (a' := ?_) zb4_15 rfl rfl (any_of HT_.out (by kernel_rfl)) (fun _ _ _ h => h) (Or.inl ⟨by rfl, ?_⟩) ?_ ?_
       rotate_left
       ·intro w'
        go_simp
        with_reducible rfl
       rotate_left
       ·simp only [Act.put, zT, zZ, zU, i64_w, i32_w]
        rfl
       refine pure_ (i := 2) (N := some 39) (v := ?_) (a' := ?_) zb4_16 rfl rfl (any_of HT_.out (by kernel_rfl)) (fun _ _ _ h => h) (Or.inl ⟨by rfl, ?_⟩) ?_ ?_
       rotate_left
       ·intro w'
        go_simp
        with_reducible rfl
       rotate_left
       ·simp only [Act.put, zT, zZ, zU, i64_w, i32_w]
        rfl
       refine pure_ (i := 3) (N := some 40) (v := ?_) (a' := ?_) zb4_17 rfl rfl (any_of HT_.out (by kernel_rfl)) (fun _ _ _ h => h) (Or.inl ⟨by rfl, ?_⟩) ?_ ?_
       rotate_left
       ·intro w'
        go_simp
        with_reducible rfl
       rotate_left
       ·simp only [Act.put, zT, zZ, zU, i64_w, i32_w]
        rfl
       refine pure_ (i := 4) (N := some 41) (v := ?_) (a' := ?_) zb4_18 rfl rfl (any_of HT_.out (by kernel_rfl)) (fun _ _ _ h => h) (Or.inl ⟨by rfl, ?_⟩) ?_ ?_
       rotate_left
       ·intro w'
        go_simp
        with_reducible rfl
       rotate_left
       ·simp only [Act.put, zT, zZ, zU, i64_w, i32_w]
        rfl
       refine pure_ (i := 5) (N := some 42) (v := ?_) (a' := ?_) #[true, false, true, true, true, true, false, false, false] rfl rfl (any_of HT_.out (by kernel_rfl)) (fun _ _ _ h => h) (Or.inl ⟨by rfl, ?_⟩) ?_ ?_
       rotate_left
       ·intro w'
        go_simp
        with_reducible rfl
       rotate_left
       ·simp only [Act.put, zT, zZ, zU, i64_w, i32_w]
        rfl
       refine take_ (i := 1) (N := some 38) (v := ?_) (a' := ?_) #[true, true, true, true, true, true, false, false, false] rfl rfl (take_ofW HT_.out HW_.out (by kernel_rfl)) (fun _ _ _ h => h) (Or.inl ⟨by rfl, ?_⟩) hHeld ?_ ?_
       rotate_left
       ·rintro w' ⟨s0, s1⟩
        go_simp
        with_reducible rfl
       rotate_left
       ·simp only [Act.put, zT, zZ, zU, i64_w, i32_w]
        rfl
       refine one_ (i := 6) (N := some 43) #[true, true, true, true, true, true, true, false, false] rfl rfl (one_of HT_.out (by kernel_rfl)) (by decide) (fun K hK => ?_)
       refine goes_ Tryd.func38 (by kernel_rfl) rfl #[.string a0_0, .string a2, .string (a3.extract 0 ((ji11) : Int).toNat)] (by rfl) rfl rfl (by (try simp only [zY, List.map_cons, List.map_nil]); first | done | (simp only [hji11]; rfl) | rfl | (simp only [zV, zX]; rfl)) ?_
       with_reducible refine (chacha_Turn.calls a0_0 a2 (a3.extract 0 ((ji11) : Int).toNat) t162 _ A21.out).mono ?_
       rintro e w25 ⟨rfl, hb⟩
       refine ⟨_, rfl, ?_⟩
       have n0_ := zM (zB (g := gb158) (o := .cells #[.string a0_0, .string a0_1] 49 (0, 0)) (by (with_reducible repeat (first | refine zN ?_ _ | refine zD ?_ | refine zA ?_ _)); exact BK158.out) hb)
       have n1_ := zM (below_step (by repeat (first | (with_reducible first | exact HB.out | apply zL | apply zP | apply zW | refine zS ?_ GE158.out) | exact HB.out)) hb)
       clear BK158
       clear HB
       have BK158 := n0_
       have HB := n1_
       clear n0_ n1_
       (try clear hb)
       (try clear hb2)
       (try clear hk)
       (try clear hi)
       refine hK.out _ _ ⟨(zC BK158.out 0).trans rfl, (zC BK158.out 1).trans rfl⟩ (fun hHeld => ?_)
       clear hK K
       refine norm_ (a' := ?_) ?_ ?_
       rotate_left
       ·show Act.put _ (some 43) _ = _
        simp only [Act.put, zT, zZ, zU, i64_w, i32_w]
        rfl
       refine pure_ (i := 7) (N := some 8) (v := ?_) (a' := ?_) #[true, true, true, true, true, true, true, true, false] rfl rfl (any_of HT_.out (by kernel_rfl)) (fun _ _ _ h => h) (Or.inl ⟨by rfl, ?_⟩) ?_ ?_
       rotate_left
       ·intro w'
        go_simp
        with_reducible rfl
       rotate_left
       ·simp only [Act.put, zT, zZ, zU, i64_w, i32_w]
        rfl
       refine pure_ (i := 8) (N := some 9) (v := ?_) (a' := ?_) #[true, true, true, true, true, true, true, true, true] rfl rfl (any_of HT_.out (by kernel_rfl)) (fun _ _ _ h => h) (Or.inl ⟨by rfl, ?_⟩) ?_ ?_
       rotate_left
       ·intro w'
        go_simp
        with_reducible rfl
       rotate_left
       ·simp only [Act.put, zT, zZ, zU, i64_w, i32_w]
        rfl
       refine done_ (done_of HT_.out (by kernel_rfl)) ?_
       try go_wp2
       go_ret2
       exact ⟨by first | rfl | (simp [errW_none, errW_some] <;> rfl) | (simp only [← hji11]; first | rfl | (simp [errW_none, errW_some] <;> rfl)) | (simp [*, errW_none, errW_some] <;> rfl), by repeat (first | (with_reducible first | exact HB.out | apply zL | apply zP | apply zW | refine zS ?_ GE158.out) | exact HB.out)⟩
      ·replace c18 := Bool.eq_false_iff.mpr c18
       subst c18
       have H1 : (some ((⟨#[]⟩ : ByteArray), 100)) = some (r1, r2) := by rw [if_neg (show ¬ (false = true) by decide)] at H; exact H
       clear H
       have H := H1
       clear H1
       simp only [Option.some.injEq, Prod.mk.injEq] at H
       obtain ⟨rfl, rfl⟩ := H
       try go_wp2
       have n0_ := zM (zD BK158.out)
       have n1_ := zM (zW HB.out)
       clear BK158
       clear HB
       have BK158 := n0_
       have HB := n1_
       clear n0_ n1_
       refine start_ (n := 13) (S := fun w' => w'.cell? ⟨gb158, 0, none⟩ = some (.string a0_0) ∧ w'.cell? ⟨gb158, 1, none⟩ = some (.string a0_1)) (ds := []) zb4_0 (by kernel_rfl) rfl rfl ⟨(zC BK158.out 0).trans rfl, (zC BK158.out 1).trans rfl⟩ (fun hHeld => ?_); refine with_tabW seal_Get.tab4 seal_Get.bits4 (fun HT_ HW_ => ?_)
       generalize wc.drew = w26 at BK158 HB hHeld ⊢
       refine pure_ (i := 1) (N := some 26) (v := ?_) (a' := ?_) zb4_1 rfl rfl (any_of HT_.out (by kernel_rfl)) (fun _ _ _ h => h) (Or.inl ⟨by rfl, ?_⟩) ?_ ?_
       rotate_left
       ·intro w'
        go_simp
        with_reducible rfl
       rotate_left
       ·simp only [Act.put, zT, zZ, zU, i64_w, i32_w]
        rfl
       refine pure_ (i := 2) (N := some 27) (v := ?_) (a' := ?_) zb4_2 rfl rfl (any_of HT_.out (by kernel_rfl)) (fun _ _ _ h => h) (Or.inl ⟨by rfl, ?_⟩) ?_ ?_
       rotate_left
       ·intro w'
        go_simp
        with_reducible rfl
       rotate_left
       ·simp only [Act.put, zT, zZ, zU, i64_w, i32_w]
        rfl
       refine pure_ (i := 3) (N := some 28) (v := ?_) (a' := ?_) zb4_3 rfl rfl (any_of HT_.out (by kernel_rfl)) (fun _ _ _ h => h) (Or.inl ⟨by rfl, ?_⟩) ?_ ?_
       rotate_left
       ·intro w'
        go_simp
        with_reducible rfl
       rotate_left
       ·simp only [Act.put, zT, zZ, zU, i64_w, i32_w]
        rfl
       refine pure_ (i := 4) (N := some 29) (v := ?_) (a' := ?_) zb4_4 rfl rfl (any_of HT_.out (by kernel_rfl)) (fun _ _ _ h => h) (Or.inl ⟨by rfl, ?_⟩) ?_ ?_
       rotate_left
       ·intro w'
        go_simp
        with_reducible rfl
       rotate_left
       ·simp only [Act.put, zT, zZ, zU, i64_w, i32_w]
        rfl
       refine pure_ (i := 5) (N := some 30) (v := ?_) (a' := ?_) zb4_5 rfl rfl (any_of HT_.out (by kernel_rfl)) (fun _ _ _ h => h) (Or.inl ⟨by rfl, ?_⟩) ?_ ?_
       rotate_left
       ·intro w'
        go_simp
        with_reducible rfl
       rotate_left
       ·simp only [Act.put, zT, zZ, zU, i64_w, i32_w]
        rfl
       refine pure_ (i := 7) (N := some 32) (v := ?_) (a' := ?_) zb4_6 rfl rfl (any_of HT_.out (by kernel_rfl)) (fun _ _ _ h => h) (Or.inl ⟨by rfl, ?_⟩) ?_ ?_
       rotate_left
       ·intro w'
        go_simp
        with_reducible rfl
       rotate_left
       ·simp only [Act.put, zT, zZ, zU, i64_w, i32_w]
        rfl
       refine pure_ (i := 8) (N := some 33) (v := ?_) (a' := ?_) zb4_7 rfl rfl (any_of HT_.out (by kernel_rfl)) (fun _ _ _ h => h) (Or.inl ⟨by rfl, ?_⟩) ?_ ?_
       rotate_left
       ·intro w'
        go_simp
        with_reducible rfl
       rotate_left
       ·simp only [Act.put, zT, zZ, zU, i64_w, i32_w]
        rfl
       refine pure_ (i := 9) (N := some 34) (v := ?_) (a' := ?_) zb4_8 rfl rfl (any_of HT_.out (by kernel_rfl)) (fun _ _ _ h => h) (Or.inl ⟨by rfl, ?_⟩) ?_ ?_
       rotate_left
       ·intro w'
        go_simp
        with_reducible rfl
       rotate_left
       ·simp only [Act.put, zT, zZ, zU, i64_w, i32_w]
        rfl
       refine take_ (i := 0) (N := some 25) (v := ?_) (a' := ?_) zb4_9 rfl rfl (take_ofW HT_.out HW_.out (by kernel_rfl)) (fun _ _ _ h => h) (Or.inl ⟨by rfl, ?_⟩) hHeld ?_ ?_
       rotate_left
       ·rintro w' ⟨s0, s1⟩
        go_simp
        with_reducible rfl
       rotate_left
       ·simp only [Act.put, zT, zZ, zU, i64_w, i32_w]
        rfl
       refine one_ (i := 6) (N := some 31) zb4_10 rfl rfl (one_of HT_.out (by kernel_rfl)) (by decide) (fun K hK => ?_)
       refine goes_ Tryd.func39 (by kernel_rfl) rfl #[.agg #[.string a0_0, .string a0_1], .int .i64 a1, .string a2, .string (a3.extract 0 ((ji11) : Int).toNat)] (by rfl) rfl rfl (by (try simp only [zY, List.map_cons, List.map_nil]); first | done | (simp only [hji11]; rfl) | rfl | (simp only [zV, zX]; rfl)) ?_
       with_reducible refine (seal_tag.calls a0_0 a0_1 a1 a2 (a3.extract 0 ((ji11) : Int).toNat) t160 _ ?side1 A14.out).mono ?_
       (case side1 => exact Go.Proofs.YtgbhjkkfleeodaaDoor.Sha.SL.below HG_.out (by repeat (first | (with_reducible first | exact HB.out | apply zL | apply zP | apply zW | refine zS ?_ GE158.out) | exact HB.out)))
       rintro e w27 ⟨rfl, hb⟩
       refine ⟨_, rfl, ?_⟩
       have n0_ := zM (zB (g := gb158) (o := .cells #[.string a0_0, .string a0_1] 49 (0, 0)) (by (with_reducible repeat (first | refine zN ?_ _ | refine zD ?_ | refine zA ?_ _)); exact BK158.out) hb)
       have n1_ := zM (below_step (by repeat (first | (with_reducible first | exact HB.out | apply zL | apply zP | apply zW | refine zS ?_ GE158.out) | exact HB.out)) hb)
       clear BK158
       clear HB
       have BK158 := n0_
       have HB := n1_
       clear n0_ n1_
       (try clear hb)
       (try clear hb2)
       (try clear hk)
       (try clear hi)
       refine hK.out _ _ ⟨(zC BK158.out 0).trans rfl, (zC BK158.out 1).trans rfl⟩ (fun hHeld => ?_)
       clear hK K
       refine norm_ (a' := ?_) ?_ ?_
       rotate_left
       ·show Act.put _ (some 31) _ = _
        simp only [Act.put, zT, zZ, zU, i64_w, i32_w]
        rfl
       refine one_ (i := 10) (N := some 35) zb4_11 rfl rfl (one_of HT_.out (by kernel_rfl)) (by decide) (fun K hK => ?_)
       refine goes_ Tryd.func42 (by kernel_rfl) rfl #[.string t160, .string (a3.extract ((ji11) : Int).toNat a3.size)] (by rfl) rfl rfl (by (try simp only [zY, List.map_cons, List.map_nil]); first | done | (simp only [hji11]; rfl) | rfl | (simp only [zV, zX]; rfl)) ?_
       with_reducible refine (hmac_Same.calls kj4 t160 (a3.extract ((ji11) : Int).toNat a3.size) false _ A17.out).mono ?_
       rintro e w' ⟨rfl, ⟨nd, rfl⟩⟩
       refine ⟨_, rfl, ?_⟩
       refine hK.out _ _ ⟨(zC BK158.out 0).trans rfl, (zC BK158.out 1).trans rfl⟩ (fun hHeld => ?_)
       clear hK K
       refine norm_ (a' := ?_) ?_ ?_
       rotate_left
       ·show Act.put _ (some 35) _ = _
        simp only [Act.put, zT, zZ, zU, i64_w, i32_w]
        rfl
       refine pure_ (i := 11) (N := some 36) (v := ?_) (a' := ?_) zb4_12 rfl rfl (any_of HT_.out (by kernel_rfl)) (fun _ _ _ h => h) (Or.inl ⟨by rfl, ?_⟩) ?_ ?_
       rotate_left
       ·intro w'
        go_simp
        with_reducible rfl
       rotate_left
       ·simp only [Act.put, zT, zZ, zU, i64_w, i32_w]
        rfl
       refine pure_ (i := 12) (N := some 24) (v := ?_) (a' := ?_) zb4_13 rfl rfl (any_of HT_.out (by kernel_rfl)) (fun _ _ _ h => h) (Or.inl ⟨by rfl, ?_⟩) ?_ ?_
       rotate_left
       ·intro w'
        go_simp
        with_reducible rfl
       rotate_left
       ·simp only [Act.put, zT, zZ, zU, i64_w, i32_w]
        rfl
       refine done_ (done_of HT_.out (by kernel_rfl)) ?_
       try go_wp2
       go_ret2
       exact ⟨by first | rfl | (simp [errW_none, errW_some] <;> rfl) | (simp only [← hji11]; first | rfl | (simp [errW_none, errW_some] <;> rfl)) | (simp [*, errW_none, errW_some] <;> rfl), by repeat (first | (with_reducible first | exact HB.out | apply zL | apply zP | apply zW | refine zS ?_ GE158.out) | exact HB.out)⟩
     ·rw [if_neg c13] at H
      exact absurd H (by simp)
    ·rw [if_neg c12] at H
     exact absurd H (by simp)
def strings_Trim.f (a0 a1 : ByteArray) : Option ByteArray := if a1.toList = ([0] : List UInt8) then (if a0.size ≤ 9223372036854775807 then some ⟨(Go.Lib.trimB a0.data.toList 0).toArray⟩ else none) else none
theorem strings_Trim.calls (a0 a1 : ByteArray) (r : ByteArray) (w : World) (h : strings_Trim.f a0 a1 = some r) :
  Calls Tryd.prog 20 #[.string a0, .string a1] w fun e w' => e = .returned (.string r) ∧ Drawn0 w w' := by
 unfold strings_Trim.f at h
 by_cases c : a1.toList = ([0] : List UInt8)
 ·rw [if_pos c] at h
  by_cases hs : a0.size ≤ 9223372036854775807
  ·rw [if_pos hs] at h
   obtain rfl := Option.some.inj h
   obtain rfl : a1 = ⟨#[0]⟩ := Go.Proofs.YtgbhjkkfleeodaaDoor.XB.toList_inj.mp (c.trans ((Go.Proofs.YtgbhjkkfleeodaaDoor.XB.toList_data (⟨#[0]⟩ : ByteArray)).trans rfl).symm)
   exact (Tryd.strings_Trim_one a0 0 (by decide) w hs).mono fun e w' h => ⟨h.1, h.2.elim (fun h => ⟨0, h⟩) (fun h => ⟨1, h⟩)⟩
  ·rw [if_neg hs] at h
   exact absurd h (by simp)
 ·rw [if_neg c] at h
  exact absurd h (by simp)
end Go.Proofs.YtgbhjkkfleeodaaDoor.PBlockPuts
