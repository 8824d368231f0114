import Derived.Test.YtgbhjkkfleeodaaDoorPBlockPutsx0
import Derived.Test.YtgbhjkkfleeodaaDoorPBlockPutsx1
import Derived.Test.YtgbhjkkfleeodaaDoorPBlockPutsx3
import Derived.Test.YtgbhjkkfleeodaaDoorPBlockPutsx5
import Derived.Test.YtgbhjkkfleeodaaDoorXB
namespace Go.Proofs.YtgbhjkkfleeodaaDoor.PBlockPuts
open Go.RowKit Go.Proofs.YtgbhjkkfleeodaaDoorW.PrintWords Go.Proofs.YtgbhjkkfleeodaaDoorW.PrintLast Go.Proofs.YtgbhjkkfleeodaaDoorW.PrintMore
open Go.Proofs.YtgbhjkkfleeodaaDoorW.PrintWords renaming blk_drewN → zN, blk_drew → zD, blk_alloc → zA, blk_cell → zC, blk_frozen → zF, below_set → zS, below_alloc → zL, below_drew1 → zW, pw_below_drewN → zP, blk_below → zB, keep_drewN → zK
open Go.Proofs.YtgbhjkkfleeodaaDoorW.PrintWords.Aside0 renaming mk → zM
open List renaming setIfInBounds_toArray → zT, set_cons_zero → zZ, set_cons_succ → zU, length_drop → zV, length_take → zX, map_toArray → zY
attribute [local go_sem] max2_int min2_int max_two min_two max_three min_three max_four min_four
set_option linter.unusedVariables false
set_option linter.unusedSimpArgs false
abbrev zb6_0 : Array Bool := #[false, false, false, false, false, false, false, false, false, false, false, false, false]
abbrev zb6_1 : Array Bool := #[true, false, false, false, false, false, false, false, false, false, false, false, false]
abbrev zb6_2 : Array Bool := #[true, true, false, false, false, false, false, false, false, false, false, false, false]
abbrev zb6_3 : Array Bool := #[true, true, true, false, false, false, false, false, false, false, false, false, false]
abbrev zb6_4 : Array Bool := #[true, true, true, false, true, false, false, false, false, false, false, false, false]
abbrev zb6_5 : Array Bool := #[true, true, true, false, true, true, false, false, false, false, false, false, false]
abbrev zb6_6 : Array Bool := #[true, true, true, false, true, true, true, false, false, false, false, false, false]
abbrev zb6_7 : Array Bool := #[true, true, true, false, true, true, true, true, false, false, false, false, false]
abbrev zb6_8 : Array Bool := #[true, true, true, true, true, true, true, true, false, false, false, false, false]
abbrev zb6_9 : Array Bool := #[true, true, true, true, true, true, true, true, true, false, false, false, false]
abbrev zb6_10 : Array Bool := #[true, true, true, true, true, true, true, true, true, true, false, false, false]
abbrev zb6_11 : Array Bool := #[true, true, true, true, true, true, true, true, true, true, true, false, false]
abbrev zb6_12 : Array Bool := #[true, true, true, true, true, true, true, true, true, true, true, true, false]
abbrev zb6_13 : Array Bool := #[true, true, true, true, true, true, true, true, true, true, true, true, true]
attribute [local go_sem high] eqA25
def lodestonelaw11_awake.f (k : Nat)  : Option (Bool) := (block_Put.f k (⟨#[109]⟩ : ByteArray) 1 2 3 3 (⟨#[116, 101, 120, 116]⟩ : ByteArray)).bind fun t175 => ((block_Get.f k (⟨#[109]⟩ : ByteArray) 3 t175).bind fun bt176 => (if bt176.2.2.2.2 = 0 then (if bt176.2.2.2.1.toList = ([116, 101, 120, 116] : List UInt8) then (some (bt176.1 == 1 && (bt176.2.1 == 2 && (bt176.2.2.1 == 3)))) else (some false)) else (some false)))
theorem lodestonelaw11_awake.mono : ∀ k, LeO (lodestonelaw11_awake.f k ) (lodestonelaw11_awake.f (k + 1) ) := by
 intro  k
 unfold lodestonelaw11_awake.f
 repeat' first
   | (with_reducible exact block_Get.mono _ _ _ _)
   | (with_reducible exact block_Put.mono _ _ _ _ _ _ _)
   | (with_reducible exact LeO.refl _)
   | (with_reducible exact LeO.none _)
   | (with_reducible refine LeO.ite ?_ ?_)
   | (with_reducible refine LeO.bind ?_ (fun _ => ?_))
   | exact block_Get.mono _ _ _ _
   | exact block_Put.mono _ _ _ _ _ _ _
   | exact LeO.none _
   | refine LeO.ite ?_ ?_
   | refine LeO.bind ?_ (fun _ => ?_)
set_option maxHeartbeats 8000000 in
set_option maxRecDepth 100000 in
theorem lodestonelaw11_awake.calls (k : Nat)  (r : Bool) (w : World) (hG_ : Go.Proofs.YtgbhjkkfleeodaaDoor.Sha.SL w) (h : lodestonelaw11_awake.f k  = some r) :
  Calls Tryd.prog 7 #[] w fun e w' => e = .returned (.bool r) ∧ Below w.heap.size w w' := by
 have HG_ := zM hG_
 clear hG_
 have hu25 := Tryd.underlying25
 have HB := zM (Below.refl w.heap.size w)
 have H : ((block_Put.f k (⟨#[109]⟩ : ByteArray) 1 2 3 3 (⟨#[116, 101, 120, 116]⟩ : ByteArray)).bind fun t175 => ((block_Get.f k (⟨#[109]⟩ : ByteArray) 3 t175).bind fun bt176 => (if bt176.2.2.2.2 = 0 then (if bt176.2.2.2.1.toList = ([116, 101, 120, 116] : List UInt8) then (some (bt176.1 == 1 && (bt176.2.1 == 2 && (bt176.2.2.1 == 3)))) else (some false)) else (some false)))) = some r := h
 clear h
 replace H := Option.bind_eq_some_iff.mp H
 obtain ⟨t175, A10, H⟩ := H
 replace H : ((block_Get.f k (⟨#[109]⟩ : ByteArray) 3 t175).bind fun bt176 => (if bt176.2.2.2.2 = 0 then (if bt176.2.2.2.1.toList = ([116, 101, 120, 116] : List UInt8) then (some (bt176.1 == 1 && (bt176.2.1 == 2 && (bt176.2.2.1 == 3)))) else (some false)) else (some false))) = some r := H
 have A1 := zM A10
 clear A10
 replace H := Option.bind_eq_some_iff.mp H
 obtain ⟨⟨t176, t177, t178, t179, t180⟩, A20, H⟩ := H
 replace H : (if t180 = 0 then (if t179.toList = ([116, 101, 120, 116] : List UInt8) then (some (t176 == 1 && (t177 == 2 && (t178 == 3)))) else (some false)) else (some false)) = some r := H
 have A2 := zM A20
 clear A20
 by_cases c3 : t180 = 0
 ·rw [if_pos c3] at H
  have c3b0 : (t180 == 0) = true := beq_iff_eq.mpr c3
  have c3b1 : (t180 != 0) = false := bne_eq_false_iff_eq.mpr c3
  clear c3
  by_cases c4 : t179.toList = ([116, 101, 120, 116] : List UInt8)
  ·rw [if_pos c4] at H
   have c4b0 : (t179.toList == ([116, 101, 120, 116] : List UInt8)) = true := beq_iff_eq.mpr c4
   have c4b1 : (t179.toList != ([116, 101, 120, 116] : List UInt8)) = false := bne_eq_false_iff_eq.mpr c4
   clear c4
   obtain rfl := Option.some.inj H
   go_enter Tryd.func7, Tryd.ntmps7
   go_wp2_with (first | ((with_reducible refine gate_callee (f := 6) rfl ?_); refine goesL_ (some 6) rfl rfl Tryd.func6 (by kernel_rfl) rfl #[.string (⟨#[109]⟩ : ByteArray), .agg #[.int .u32 1, .int .u64 2, .int .u32 3], .int .i64 3, .string (⟨#[116, 101, 120, 116]⟩ : ByteArray)] rfl (by (try simp only [zY, List.map_cons, List.map_nil]); first | done | rfl | (simp only [zV, zX]; rfl)) ?_; (with_reducible refine (block_Put.calls k (⟨#[109]⟩ : ByteArray) 1 2 3 3 (⟨#[116, 101, 120, 116]⟩ : ByteArray) t175 _ ?side1 A1.out).mono ?_); (case side1 => exact Go.Proofs.YtgbhjkkfleeodaaDoor.Sha.SL.below HG_.out (by repeat (first | (with_reducible first | exact HB.out | apply zL | apply zP | apply zW) | exact HB.out))); rintro e w5 ⟨rfl, hb⟩; refine ⟨_, rfl, ?_⟩; have n0_ := zM (below_step (by repeat (first | (with_reducible first | exact HB.out | apply zL | apply zP | apply zW) | exact HB.out)) hb); clear HB; have HB := n0_; clear n0_; (try clear hb); (try clear hb2); (try clear hk); (try clear hi)) | ((with_reducible refine gate_callee (f := 8) rfl ?_); refine goesL_ (some 7) rfl rfl Tryd.func8 (by kernel_rfl) rfl #[.string (⟨#[109]⟩ : ByteArray), .int .i64 3, .string t175] rfl (by (try simp only [zY, List.map_cons, List.map_nil]); first | done | rfl | (simp only [zV, zX]; rfl)) ?_; (with_reducible refine (block_Get.calls k (⟨#[109]⟩ : ByteArray) 3 t175 t176 t177 t178 t179 t180 _ ?side1 A2.out).mono ?_); (case side1 => exact Go.Proofs.YtgbhjkkfleeodaaDoor.Sha.SL.below HG_.out (by repeat (first | (with_reducible first | exact HB.out | apply zL | apply zP | apply zW) | exact HB.out))); rintro e w6 ⟨rfl, hb⟩; refine ⟨_, rfl, ?_⟩; have n0_ := zM (below_step (by repeat (first | (with_reducible first | exact HB.out | apply zL | apply zP | apply zW) | exact HB.out)) hb); clear HB; have HB := n0_; clear n0_; (try clear hb); (try clear hb2); (try clear hk); (try clear hi)) | ((with_reducible refine gate_dst (N := 1) rfl ?_); refine box_event ?hg (N := 1) ?hd (cs := #[.int .u32 0, .int .u64 0, .int .u32 0]) (t := 25) ?hr ?_; (case hd => rfl); (case hg => rfl); (case hr => first | (go_simp; done) | (go_simp; rfl)); intro gb181 hg w7 hbox hb; have n0_ := zM (below_step (by repeat (first | (with_reducible first | exact HB.out | apply zL | apply zP | apply zW) | exact HB.out)) hb); have n1_ := zM (hbox); have n2_ := zM ((by rw [hg]; exact (below_size (by repeat (first | (with_reducible first | exact HB.out | apply zL | apply zP | apply zW) | exact HB.out))) : w.heap.size ≤ gb181)); have n3_ := zM ((by rw [hg]; exact (below_size (by repeat (first | (with_reducible first | exact HB.out | apply zL | apply zP | apply zW) | exact HB.out))) : w.heap.size ≤ gb181)); clear HB; have HB := n0_; have BK181 := n1_; have GW181 := n2_; have GE181 := n3_; clear n0_ n1_ n2_ n3_; clear hb hbox hg; have hcz8_0 : w7.cell? ⟨gb181, 0, none⟩ = some (.int .u32 0) := (zC BK181.out 0).trans rfl; have hcz8_1 : w7.cell? ⟨gb181, 1, none⟩ = some (.int .u64 0) := (zC BK181.out 1).trans rfl; have hcz8_2 : w7.cell? ⟨gb181, 2, none⟩ = some (.int .u32 0) := (zC BK181.out 2).trans rfl; have hfz8_0 := zF BK181.out 0; have hfz8_1 := zF BK181.out 1; have hfz8_2 := zF BK181.out 2))
   go_ret
   exact ⟨by first | rfl | (simp [errW_none, errW_some] <;> rfl) | (simp [*, errW_none, errW_some] <;> rfl), by repeat (first | (with_reducible first | exact HB.out | apply zL | apply zP | apply zW | refine zS ?_ GE181.out) | exact HB.out)⟩
  ·rw [if_neg c4] at H
   have c4b0 : (t179.toList == ([116, 101, 120, 116] : List UInt8)) = false := beq_eq_false_iff_ne.mpr c4
   have c4b1 : (t179.toList != ([116, 101, 120, 116] : List UInt8)) = true := bne_iff_ne.mpr c4
   obtain rfl := Option.some.inj H
   go_enter Tryd.func7, Tryd.ntmps7
   go_wp2_with (first | ((with_reducible refine gate_callee (f := 6) rfl ?_); refine goesL_ (some 6) rfl rfl Tryd.func6 (by kernel_rfl) rfl #[.string (⟨#[109]⟩ : ByteArray), .agg #[.int .u32 1, .int .u64 2, .int .u32 3], .int .i64 3, .string (⟨#[116, 101, 120, 116]⟩ : ByteArray)] rfl (by (try simp only [zY, List.map_cons, List.map_nil]); first | done | rfl | (simp only [zV, zX]; rfl)) ?_; (with_reducible refine (block_Put.calls k (⟨#[109]⟩ : ByteArray) 1 2 3 3 (⟨#[116, 101, 120, 116]⟩ : ByteArray) t175 _ ?side1 A1.out).mono ?_); (case side1 => exact Go.Proofs.YtgbhjkkfleeodaaDoor.Sha.SL.below HG_.out (by repeat (first | (with_reducible first | exact HB.out | apply zL | apply zP | apply zW) | exact HB.out))); rintro e w9 ⟨rfl, hb⟩; refine ⟨_, rfl, ?_⟩; have n0_ := zM (below_step (by repeat (first | (with_reducible first | exact HB.out | apply zL | apply zP | apply zW) | exact HB.out)) hb); clear HB; have HB := n0_; clear n0_; (try clear hb); (try clear hb2); (try clear hk); (try clear hi)) | ((with_reducible refine gate_callee (f := 8) rfl ?_); refine goesL_ (some 7) rfl rfl Tryd.func8 (by kernel_rfl) rfl #[.string (⟨#[109]⟩ : ByteArray), .int .i64 3, .string t175] rfl (by (try simp only [zY, List.map_cons, List.map_nil]); first | done | rfl | (simp only [zV, zX]; rfl)) ?_; (with_reducible refine (block_Get.calls k (⟨#[109]⟩ : ByteArray) 3 t175 t176 t177 t178 t179 t180 _ ?side1 A2.out).mono ?_); (case side1 => exact Go.Proofs.YtgbhjkkfleeodaaDoor.Sha.SL.below HG_.out (by repeat (first | (with_reducible first | exact HB.out | apply zL | apply zP | apply zW) | exact HB.out))); rintro e w10 ⟨rfl, hb⟩; refine ⟨_, rfl, ?_⟩; have n0_ := zM (below_step (by repeat (first | (with_reducible first | exact HB.out | apply zL | apply zP | apply zW) | exact HB.out)) hb); clear HB; have HB := n0_; clear n0_; (try clear hb); (try clear hb2); (try clear hk); (try clear hi)) | ((with_reducible refine gate_dst (N := 1) rfl ?_); refine box_event ?hg (N := 1) ?hd (cs := #[.int .u32 0, .int .u64 0, .int .u32 0]) (t := 25) ?hr ?_; (case hd => rfl); (case hg => rfl); (case hr => first | (go_simp; done) | (go_simp; rfl)); intro gb181 hg w11 hbox hb; have n0_ := zM (below_step (by repeat (first | (with_reducible first | exact HB.out | apply zL | apply zP | apply zW) | exact HB.out)) hb); have n1_ := zM (hbox); have n2_ := zM ((by rw [hg]; exact (below_size (by repeat (first | (with_reducible first | exact HB.out | apply zL | apply zP | apply zW) | exact HB.out))) : w.heap.size ≤ gb181)); have n3_ := zM ((by rw [hg]; exact (below_size (by repeat (first | (with_reducible first | exact HB.out | apply zL | apply zP | apply zW) | exact HB.out))) : w.heap.size ≤ gb181)); clear HB; have HB := n0_; have BK181 := n1_; have GW181 := n2_; have GE181 := n3_; clear n0_ n1_ n2_ n3_; clear hb hbox hg; have hcz12_0 : w11.cell? ⟨gb181, 0, none⟩ = some (.int .u32 0) := (zC BK181.out 0).trans rfl; have hcz12_1 : w11.cell? ⟨gb181, 1, none⟩ = some (.int .u64 0) := (zC BK181.out 1).trans rfl; have hcz12_2 : w11.cell? ⟨gb181, 2, none⟩ = some (.int .u32 0) := (zC BK181.out 2).trans rfl; have hfz12_0 := zF BK181.out 0; have hfz12_1 := zF BK181.out 1; have hfz12_2 := zF BK181.out 2))
   go_ret
   exact ⟨by first | rfl | (simp [errW_none, errW_some] <;> rfl) | (simp [*, errW_none, errW_some] <;> rfl), by repeat (first | (with_reducible first | exact HB.out | apply zL | apply zP | apply zW | refine zS ?_ GE181.out) | exact HB.out)⟩
 ·rw [if_neg c3] at H
  have c3b0 : (t180 == 0) = false := beq_eq_false_iff_ne.mpr c3
  have c3b1 : (t180 != 0) = true := bne_iff_ne.mpr c3
  obtain rfl := Option.some.inj H
  go_enter Tryd.func7, Tryd.ntmps7
  go_wp2_with (first | ((with_reducible refine gate_callee (f := 6) rfl ?_); refine goesL_ (some 6) rfl rfl Tryd.func6 (by kernel_rfl) rfl #[.string (⟨#[109]⟩ : ByteArray), .agg #[.int .u32 1, .int .u64 2, .int .u32 3], .int .i64 3, .string (⟨#[116, 101, 120, 116]⟩ : ByteArray)] rfl (by (try simp only [zY, List.map_cons, List.map_nil]); first | done | rfl | (simp only [zV, zX]; rfl)) ?_; (with_reducible refine (block_Put.calls k (⟨#[109]⟩ : ByteArray) 1 2 3 3 (⟨#[116, 101, 120, 116]⟩ : ByteArray) t175 _ ?side1 A1.out).mono ?_); (case side1 => exact Go.Proofs.YtgbhjkkfleeodaaDoor.Sha.SL.below HG_.out (by repeat (first | (with_reducible first | exact HB.out | apply zL | apply zP | apply zW) | exact HB.out))); rintro e w13 ⟨rfl, hb⟩; refine ⟨_, rfl, ?_⟩; have n0_ := zM (below_step (by repeat (first | (with_reducible first | exact HB.out | apply zL | apply zP | apply zW) | exact HB.out)) hb); clear HB; have HB := n0_; clear n0_; (try clear hb); (try clear hb2); (try clear hk); (try clear hi)) | ((with_reducible refine gate_callee (f := 8) rfl ?_); refine goesL_ (some 7) rfl rfl Tryd.func8 (by kernel_rfl) rfl #[.string (⟨#[109]⟩ : ByteArray), .int .i64 3, .string t175] rfl (by (try simp only [zY, List.map_cons, List.map_nil]); first | done | rfl | (simp only [zV, zX]; rfl)) ?_; (with_reducible refine (block_Get.calls k (⟨#[109]⟩ : ByteArray) 3 t175 t176 t177 t178 t179 t180 _ ?side1 A2.out).mono ?_); (case side1 => exact Go.Proofs.YtgbhjkkfleeodaaDoor.Sha.SL.below HG_.out (by repeat (first | (with_reducible first | exact HB.out | apply zL | apply zP | apply zW) | exact HB.out))); rintro e w14 ⟨rfl, hb⟩; refine ⟨_, rfl, ?_⟩; have n0_ := zM (below_step (by repeat (first | (with_reducible first | exact HB.out | apply zL | apply zP | apply zW) | exact HB.out)) hb); clear HB; have HB := n0_; clear n0_; (try clear hb); (try clear hb2); (try clear hk); (try clear hi)) | ((with_reducible refine gate_dst (N := 1) rfl ?_); refine box_event ?hg (N := 1) ?hd (cs := #[.int .u32 0, .int .u64 0, .int .u32 0]) (t := 25) ?hr ?_; (case hd => rfl); (case hg => rfl); (case hr => first | (go_simp; done) | (go_simp; rfl)); intro gb181 hg w15 hbox hb; have n0_ := zM (below_step (by repeat (first | (with_reducible first | exact HB.out | apply zL | apply zP | apply zW) | exact HB.out)) hb); have n1_ := zM (hbox); have n2_ := zM ((by rw [hg]; exact (below_size (by repeat (first | (with_reducible first | exact HB.out | apply zL | apply zP | apply zW) | exact HB.out))) : w.heap.size ≤ gb181)); have n3_ := zM ((by rw [hg]; exact (below_size (by repeat (first | (with_reducible first | exact HB.out | apply zL | apply zP | apply zW) | exact HB.out))) : w.heap.size ≤ gb181)); clear HB; have HB := n0_; have BK181 := n1_; have GW181 := n2_; have GE181 := n3_; clear n0_ n1_ n2_ n3_; clear hb hbox hg; have hcz16_0 : w15.cell? ⟨gb181, 0, none⟩ = some (.int .u32 0) := (zC BK181.out 0).trans rfl; have hcz16_1 : w15.cell? ⟨gb181, 1, none⟩ = some (.int .u64 0) := (zC BK181.out 1).trans rfl; have hcz16_2 : w15.cell? ⟨gb181, 2, none⟩ = some (.int .u32 0) := (zC BK181.out 2).trans rfl; have hfz16_0 := zF BK181.out 0; have hfz16_1 := zF BK181.out 1; have hfz16_2 := zF BK181.out 2))
  go_ret
  exact ⟨by first | rfl | (simp [errW_none, errW_some] <;> rfl) | (simp [*, errW_none, errW_some] <;> rfl), by repeat (first | (with_reducible first | exact HB.out | apply zL | apply zP | apply zW | refine zS ?_ GE181.out) | exact HB.out)⟩
def lodestoneref01_Tag.f (a0 a1 : ByteArray) : Option ByteArray := if a0.size ≤ 140737488351232 ∧ a1.size + 64 ≤ 140737488351232 then some (Go.Proofs.YtgbhjkkfleeodaaDoor.Hm.tag a0 a1) else none
theorem lodestoneref01_Tag.calls (a0 : ByteArray) (a1 : ByteArray) (r : ByteArray) (w : World) (h : lodestoneref01_Tag.f a0 a1 = some r) :
  Calls Tryd.prog 12 #[.string a0, .string a1] w fun e w' => e = .returned (.string r) ∧ Below w.heap.size w w' := by
 unfold lodestoneref01_Tag.f at h
 by_cases c : a0.size ≤ 140737488351232 ∧ a1.size + 64 ≤ 140737488351232
 ·rw [if_pos c] at h
  obtain rfl := Option.some.inj h
  exact Go.Proofs.YtgbhjkkfleeodaaDoor.Hm.reftag_calls a0 a1 c.1 c.2 w
 ·rw [if_neg c] at h
  exact absurd h (by simp)
def lodestoneref04_High.l0 : Nat → Int → Int → ByteArray → Int → Option (ByteArray)
 | 0, _, _, _, _ => none
 | k + 1, x0, x1, x5, x6 => if x6 < x1 then (if x6 < 8 then ((some (([(Int.tmod x0 256) % 256] : List Int) : List Int)).bind fun y182 => (if (strOfNums y182).size + x5.size ≤ 9223372036854775807 then (lodestoneref04_High.l0 k (IntKind.u64.wrap (Int.tdiv x0 256)) x1 ((strOfNums y182) ++ x5) (wrap64 (x6 + 1))) else (none))) else (some x5)) else (some x5)
def lodestoneref04_High.f (k : Nat) (a0 : Int) (a1 : Int) : Option (ByteArray) := lodestoneref04_High.l0 k a0 a1 (⟨#[]⟩ : ByteArray) 0
theorem lodestoneref04_High.mono_l : ∀ k, (∀ y0 y1 y2 y3, LeO (lodestoneref04_High.l0 k y0 y1 y2 y3) (lodestoneref04_High.l0 (k + 1) y0 y1 y2 y3))
 | 0 => fun _ _ _ _ r h => by simp [lodestoneref04_High.l0] at h
 | k + 1 => by
  have ih0 := lodestoneref04_High.mono_l k
  ·intro y0 y1 y2 y3
   unfold lodestoneref04_High.l0
   repeat' first
   | (with_reducible exact ih0 _ _ _ _)
   | (with_reducible exact LeO.refl _)
   | (with_reducible exact LeO.none _)
   | (with_reducible refine LeO.ite ?_ ?_)
   | (with_reducible refine LeO.bind ?_ (fun _ => ?_))
   | exact ih0 _ _ _ _
   | exact LeO.none _
   | refine LeO.ite ?_ ?_
   | refine LeO.bind ?_ (fun _ => ?_)
theorem lodestoneref04_High.mono : ∀ a0 a1 k, LeO (lodestoneref04_High.f k a0 a1) (lodestoneref04_High.f (k + 1) a0 a1) := by
 intro a0 a1 k
 have ih0 := lodestoneref04_High.mono_l k
 unfold lodestoneref04_High.f
 repeat' first
   | (with_reducible exact ih0 _ _ _ _)
   | (with_reducible exact LeO.refl _)
   | (with_reducible exact LeO.none _)
   | (with_reducible refine LeO.ite ?_ ?_)
   | (with_reducible refine LeO.bind ?_ (fun _ => ?_))
   | exact ih0 _ _ _ _
   | exact LeO.none _
   | refine LeO.ite ?_ ?_
   | refine LeO.bind ?_ (fun _ => ?_)
set_option maxHeartbeats 8000000 in
set_option maxRecDepth 100000 in
theorem lodestoneref04_High.calls (k : Nat) (a0 : Int) (a1 : Int) (r : ByteArray) (w : World) (h : lodestoneref04_High.f k a0 a1 = some r) :
  Calls Tryd.prog 24 #[.int .u64 a0, .int .i64 a1] w fun e w' => e = .returned (.string r) ∧ Below w.heap.size w w' := by
 have HB := zM (Below.refl w.heap.size w)
 have H : (lodestoneref04_High.l0 k a0 a1 (⟨#[]⟩ : ByteArray) 0) = some r := h
 clear h
 have H' := zM H
 clear H
 go_enter Tryd.func24, Tryd.ntmps24
 go_wp2
 go_loopg [0, 5, 6] k (fun kq v0 v5 v6 w' => ∃ (x0_1 : Int) (x5_1 : ByteArray) (x6_1 : Int), v0 = .int .u64 x0_1 ∧ v5 = .string x5_1 ∧ v6 = .int .i64 x6_1 ∧ Aside0 (lodestoneref04_High.l0 kq x0_1 a1 x5_1 x6_1 = some r) ∧ Aside0 (kq ≤ k) ∧ Aside0 (Below w.heap.size w w'))
 case atStart => exact ⟨(a0), ((⟨#[]⟩ : ByteArray)), (0), (by first | rfl | (simp; done) | (simp [*]; done)), (by first | rfl | (simp; done) | (simp [*]; done)), (by first | rfl | (simp; done) | (simp [*]; done)), H', ⟨Nat.le_refl _⟩, ⟨by repeat (first | (with_reducible first | exact HB.out | apply zL | apply zP | apply zW) | exact HB.out)⟩⟩
 case round =>
  clear H'
  try clear c2
  try clear p2
  obtain ⟨x0_1, x5_1, x6_1, rfl, rfl, rfl, HA, HK1, HB⟩ := hrel
  cases gk with
  | zero => exact absurd HA.out (by simp [lodestoneref04_High.l0])
  | succ k1 =>
   have H := HA.out
   clear HA
   simp only [lodestoneref04_High.l0] at H
   by_cases c3 : x6_1 < a1
   ·rw [if_pos c3] at H
    have c3b0 : decide (x6_1 < a1) = true := decide_eq_true c3
    clear c3
    by_cases c4 : x6_1 < 8
    ·rw [if_pos c4] at H
     have c4b0 : decide (x6_1 < 8) = true := decide_eq_true c4
     clear c4
     obtain ⟨y182, hy182⟩ : ∃ y_ : List Int, y_ = (([(Int.tmod x0_1 256) % 256] : List Int)) := ⟨_, rfl⟩
     replace H : (if (strOfNums y182).size + x5_1.size ≤ 9223372036854775807 then (lodestoneref04_High.l0 k1 (IntKind.u64.wrap (Int.tdiv x0_1 256)) a1 ((strOfNums y182) ++ x5_1) (wrap64 (x6_1 + 1))) else (none)) = some r := by first | (rw [hy182]; with_reducible exact H) | (have H2_ := (Option.bind_some _ _).symm.trans H; rw [hy182]; with_reducible exact H2_) | (have H2_ := (Option.bind_some _ _).symm.trans H; with_reducible exact H2_) | with_reducible exact H | (rw [hy182]; exact H) | exact H
     have Ny182 := zM hy182
     clear hy182
     by_cases c5 : (strOfNums y182).size + x5_1.size ≤ 9223372036854775807
     ·rw [if_pos c5] at H
      have c5b0 := eq_true c5
      have c5b1 : decide ((strOfNums y182).size + x5_1.size ≤ 9223372036854775807) = true := decide_eq_true c5
      try have c5b2 : (9223372036854775807 < (strOfNums y182).size + x5_1.size) = False := eq_false (Nat.not_lt.2 c5)
      have H' := zM H
      clear H
      go_wp2_with (first | ((with_reducible refine gate_dst (N := 19) rfl ?_); refine Kd.R_lit (Kd.int .u8) _ 5 ?hg (N := 19) ?hd (xs := ([(Int.tmod x0_1 256) % 256] : List Int)) (inner := [.int .u8 ((Int.tmod x0_1 256) % 256)]) (ok := fun _ => True) (okp := fun _ => True) ?hr ?hp (fun _ hk => hk) trivial (Below.refl _ _) (Nat.le_refl _) (by simp) ?_; (case hd => rfl); (case hg => rfl); (case hr => first | (go_simp; done) | (go_simp; rfl)); (case hp => exact (Reps.one (show Kd.M (Kd.int .u8) _ _ _ ((Int.tmod x0_1 256) % 256) [.int .u8 ((Int.tmod x0_1 256) % 256)] from rfl) (Reps.none _ _))); intro v183 w6 ho7 hb hg_ hnew_; clear hg_ hnew_; (first | rw [← Ny182.out] at ho7 | (simp only [Int.reduceToNat] at ho7; rw [← Ny182.out] at ho7)); have n0_ := zM (Kd.R_lower ho7 (below_size (by repeat (first | (with_reducible first | exact HB.out | apply zL | apply zP | apply zW) | exact HB.out)))); have n1_ := zM (below_step (by repeat (first | (with_reducible first | exact HB.out | apply zL | apply zP | apply zW) | exact HB.out)) hb); clear HB; have HO184 := n0_; have HB := n1_; clear n0_ n1_; clear hb ho7; have hcv8 := own_string (P := Tryd.prog) Tryd.underlying34 Tryd.underlying5 Tryd.underlying9 (Kd.own_of_R HO184.out)))
      go_roundg k1
      case measure => have := HK1.out; omega
      case rel => exact ⟨(IntKind.u64.wrap (Int.tdiv x0_1 256)), ((strOfNums y182) ++ x5_1), (wrap64 (x6_1 + 1)), (by first | rfl | (simp; done) | (simp [*]; done)), (by first | rfl | (simp; done) | (simp [*]; done)), (by first | rfl | (simp; done) | (simp [*]; done)), H', ⟨by have := HK1.out; omega⟩, ⟨by repeat (first | (with_reducible first | exact HB.out | apply zL | apply zP | apply zW) | exact HB.out)⟩⟩
     ·rw [if_neg c5] at H
      exact absurd H (by simp)
    ·rw [if_neg c4] at H
     have c4b0 : decide (x6_1 < 8) = false := decide_eq_false c4
     clear c4
     obtain rfl := Option.some.inj H
     go_wp2
     go_ret
     exact ⟨by first | rfl | (simp [errW_none, errW_some] <;> rfl) | (simp [*, errW_none, errW_some] <;> rfl), by repeat (first | (with_reducible first | exact HB.out | apply zL | apply zP | apply zW) | exact HB.out)⟩
   ·rw [if_neg c3] at H
    have c3b0 : decide (x6_1 < a1) = false := decide_eq_false c3
    clear c3
    obtain rfl := Option.some.inj H
    go_wp2
    go_ret
    exact ⟨by first | rfl | (simp [errW_none, errW_some] <;> rfl) | (simp [*, errW_none, errW_some] <;> rfl), by repeat (first | (with_reducible first | exact HB.out | apply zL | apply zP | apply zW) | exact HB.out)⟩
def lodestoneref01_Expand.l0 : Nat → ByteArray → ByteArray → Int → ByteArray → ByteArray → Int → Option (ByteArray)
 | 0, _, _, _, _, _, _ => none
 | k + 1, x0, x1, x2, x7, x8, x9 => if (x7.size : Int) < x2 then (if x8.size + x1.size ≤ 9223372036854775807 then ((some (([(x9) % 256] : List Int) : List Int)).bind fun y185 => (if (x8 ++ x1).size + (strOfNums y185).size ≤ 9223372036854775807 then ((lodestoneref01_Tag.f x0 ((x8 ++ x1) ++ (strOfNums y185))).bind fun t188 => (if x7.size + t188.size ≤ 9223372036854775807 then (lodestoneref01_Expand.l0 k x0 x1 x2 (x7 ++ t188) t188 (wrap64 (x9 + 1))) else (none))) else (none))) else (none)) else (if 0 ≤ x2 then (if x2 ≤ (x7.size : Int) then (some (x7.extract 0 (x2 : Int).toNat)) else (none)) else (none))
def lodestoneref01_Expand.f (k : Nat) (a0 : ByteArray) (a1 : ByteArray) (a2 : Int) : Option (ByteArray) := lodestoneref01_Expand.l0 k a0 a1 a2 (⟨#[]⟩ : ByteArray) (⟨#[]⟩ : ByteArray) 1
theorem lodestoneref01_Expand.mono_l : ∀ k, (∀ y0 y1 y2 y3 y4 y5, LeO (lodestoneref01_Expand.l0 k y0 y1 y2 y3 y4 y5) (lodestoneref01_Expand.l0 (k + 1) y0 y1 y2 y3 y4 y5))
 | 0 => fun _ _ _ _ _ _ r h => by simp [lodestoneref01_Expand.l0] at h
 | k + 1 => by
  have ih0 := lodestoneref01_Expand.mono_l k
  ·intro y0 y1 y2 y3 y4 y5
   unfold lodestoneref01_Expand.l0
   repeat' first
   | (with_reducible exact ih0 _ _ _ _ _ _)
   | (with_reducible exact LeO.refl _)
   | (with_reducible exact LeO.none _)
   | (with_reducible refine LeO.ite ?_ ?_)
   | (with_reducible refine LeO.bind ?_ (fun _ => ?_))
   | exact ih0 _ _ _ _ _ _
   | exact LeO.none _
   | refine LeO.ite ?_ ?_
   | refine LeO.bind ?_ (fun _ => ?_)
theorem lodestoneref01_Expand.mono : ∀ a0 a1 a2 k, LeO (lodestoneref01_Expand.f k a0 a1 a2) (lodestoneref01_Expand.f (k + 1) a0 a1 a2) := by
 intro a0 a1 a2 k
 have ih0 := lodestoneref01_Expand.mono_l k
 unfold lodestoneref01_Expand.f
 repeat' first
   | (with_reducible exact ih0 _ _ _ _ _ _)
   | (with_reducible exact LeO.refl _)
   | (with_reducible exact LeO.none _)
   | (with_reducible refine LeO.ite ?_ ?_)
   | (with_reducible refine LeO.bind ?_ (fun _ => ?_))
   | exact ih0 _ _ _ _ _ _
   | exact LeO.none _
   | refine LeO.ite ?_ ?_
   | refine LeO.bind ?_ (fun _ => ?_)
set_option maxHeartbeats 8000000 in
set_option maxRecDepth 100000 in
theorem lodestoneref01_Expand.calls (k : Nat) (a0 : ByteArray) (a1 : ByteArray) (a2 : Int) (r : ByteArray) (w : World) (h : lodestoneref01_Expand.f k a0 a1 a2 = some r) :
  Calls Tryd.prog 26 #[.string a0, .string a1, .int .i64 a2] w fun e w' => e = .returned (.string r) ∧ Below w.heap.size w w' := by
 have HB := zM (Below.refl w.heap.size w)
 have H : (lodestoneref01_Expand.l0 k a0 a1 a2 (⟨#[]⟩ : ByteArray) (⟨#[]⟩ : ByteArray) 1) = some r := h
 clear h
 have H' := zM H
 clear H
 go_enter Tryd.func26, Tryd.ntmps26
 go_wp2
 go_loopg [7, 8, 9] k (fun kq v7 v8 v9 w' => ∃ (x7_1 : ByteArray) (x8_1 : ByteArray) (x9_1 : Int), v7 = .string x7_1 ∧ v8 = .string x8_1 ∧ v9 = .int .i64 x9_1 ∧ Aside0 (lodestoneref01_Expand.l0 kq a0 a1 a2 x7_1 x8_1 x9_1 = some r) ∧ Aside0 (kq ≤ k) ∧ Aside0 (Below w.heap.size w w'))
 case atStart => exact ⟨((⟨#[]⟩ : ByteArray)), ((⟨#[]⟩ : ByteArray)), (1), (by first | rfl | (simp; done) | (simp [*]; done)), (by first | rfl | (simp; done) | (simp [*]; done)), (by first | rfl | (simp; done) | (simp [*]; done)), H', ⟨Nat.le_refl _⟩, ⟨by repeat (first | (with_reducible first | exact HB.out | apply zL | apply zP | apply zW) | exact HB.out)⟩⟩
 case round =>
  clear H'
  try clear c2
  try clear p2
  obtain ⟨x7_1, x8_1, x9_1, rfl, rfl, rfl, HA, HK1, HB⟩ := hrel
  cases gk with
  | zero => exact absurd HA.out (by simp [lodestoneref01_Expand.l0])
  | succ k1 =>
   have H := HA.out
   clear HA
   simp only [lodestoneref01_Expand.l0] at H
   by_cases c4 : (x7_1.size : Int) < a2
   ·rw [if_pos c4] at H
    have c4b0 : decide ((x7_1.size : Int) < a2) = true := decide_eq_true c4
    clear c4
    by_cases c5 : x8_1.size + a1.size ≤ 9223372036854775807
    ·rw [if_pos c5] at H
     have c5b0 := eq_true c5
     have c5b1 : decide (x8_1.size + a1.size ≤ 9223372036854775807) = true := decide_eq_true c5
     try have c5b2 : (9223372036854775807 < x8_1.size + a1.size) = False := eq_false (Nat.not_lt.2 c5)
     obtain ⟨y185, hy185⟩ : ∃ y_ : List Int, y_ = (([(x9_1) % 256] : List Int)) := ⟨_, rfl⟩
     replace H : (if (x8_1 ++ a1).size + (strOfNums y185).size ≤ 9223372036854775807 then ((lodestoneref01_Tag.f a0 ((x8_1 ++ a1) ++ (strOfNums y185))).bind fun t188 => (if x7_1.size + t188.size ≤ 9223372036854775807 then (lodestoneref01_Expand.l0 k1 a0 a1 a2 (x7_1 ++ t188) t188 (wrap64 (x9_1 + 1))) else (none))) else (none)) = some r := by first | (rw [hy185]; with_reducible exact H) | (have H2_ := (Option.bind_some _ _).symm.trans H; rw [hy185]; with_reducible exact H2_) | (have H2_ := (Option.bind_some _ _).symm.trans H; with_reducible exact H2_) | with_reducible exact H | (rw [hy185]; exact H) | exact H
     have Ny185 := zM hy185
     clear hy185
     by_cases c6 : (x8_1 ++ a1).size + (strOfNums y185).size ≤ 9223372036854775807
     ·rw [if_pos c6] at H
      have c6b0 := eq_true c6
      have c6w : IntKind.u64.wrap ((x8_1 ++ a1).size + (strOfNums y185).size : Int) = ((x8_1 ++ a1).size + (strOfNums y185).size : Int) := by simp only [IntKind.wrap, IntKind.bits, IntKind.signed]; simp; omega
      have c6b1 : decide ((x8_1 ++ a1).size + (strOfNums y185).size ≤ 9223372036854775807) = true := decide_eq_true c6
      try have c6b2 : (9223372036854775807 < (x8_1 ++ a1).size + (strOfNums y185).size) = False := eq_false (Nat.not_lt.2 c6)
      have c6q := c6
      simp only [ByteArray.size_append] at c6q
      have c6b9 := eq_false (Nat.not_lt.2 c6q)
      clear c6q
      replace H := Option.bind_eq_some_iff.mp H
      obtain ⟨t188, A70, H⟩ := H
      replace H : (if x7_1.size + t188.size ≤ 9223372036854775807 then (lodestoneref01_Expand.l0 k1 a0 a1 a2 (x7_1 ++ t188) t188 (wrap64 (x9_1 + 1))) else (none)) = some r := H
      have A7 := zM A70
      clear A70
      by_cases c8 : x7_1.size + t188.size ≤ 9223372036854775807
      ·rw [if_pos c8] at H
       have c8b0 := eq_true c8
       have c8b1 : decide (x7_1.size + t188.size ≤ 9223372036854775807) = true := decide_eq_true c8
       try have c8b2 : (9223372036854775807 < x7_1.size + t188.size) = False := eq_false (Nat.not_lt.2 c8)
       have H' := zM H
       clear H
       go_wp2_with (first | ((with_reducible refine gate_dst (N := 22) rfl ?_); refine Kd.R_lit (Kd.int .u8) _ 5 ?hg (N := 22) ?hd (xs := ([(x9_1) % 256] : List Int)) (inner := [.int .u8 ((x9_1) % 256)]) (ok := fun _ => True) (okp := fun _ => True) ?hr ?hp (fun _ hk => hk) trivial (Below.refl _ _) (Nat.le_refl _) (by simp) ?_; (case hd => rfl); (case hg => rfl); (case hr => first | (go_simp; done) | (go_simp; rfl)); (case hp => exact (Reps.one (show Kd.M (Kd.int .u8) _ _ _ ((x9_1) % 256) [.int .u8 ((x9_1) % 256)] from rfl) (Reps.none _ _))); intro v186 w9 ho10 hb hg_ hnew_; clear hg_ hnew_; (first | rw [← Ny185.out] at ho10 | (simp only [Int.reduceToNat] at ho10; rw [← Ny185.out] at ho10)); have n0_ := zM (Kd.R_lower ho10 (below_size (by repeat (first | (with_reducible first | exact HB.out | apply zL | apply zP | apply zW) | exact HB.out)))); have n1_ := zM (below_step (by repeat (first | (with_reducible first | exact HB.out | apply zL | apply zP | apply zW) | exact HB.out)) hb); clear HB; have HO187 := n0_; have HB := n1_; clear n0_ n1_; clear hb ho10; have hcv11 := own_string (P := Tryd.prog) Tryd.underlying34 Tryd.underlying5 Tryd.underlying9 (Kd.own_of_R HO187.out)) | ((with_reducible refine gate_callee (f := 12) rfl ?_); refine goesL_ (some 25) rfl rfl Tryd.func12 (by kernel_rfl) rfl #[.string a0, .string ((x8_1 ++ a1) ++ (strOfNums y185))] rfl (by (try simp only [zY, List.map_cons, List.map_nil]); first | done | rfl | (simp only [zV, zX]; rfl)) ?_; (with_reducible refine (lodestoneref01_Tag.calls a0 ((x8_1 ++ a1) ++ (strOfNums y185)) t188 _ A7.out).mono ?_); rintro e w12 ⟨rfl, hb⟩; refine ⟨_, rfl, ?_⟩; have n0_ := zM (Kd.R_below (by (with_reducible repeat (first | apply Kd.R_alloc | apply Kd.R_drewN | apply Kd.R_drew)); exact HO187.out) hb); have n1_ := zM (below_step (by repeat (first | (with_reducible first | exact HB.out | apply zL | apply zP | apply zW) | exact HB.out)) hb); clear HO187; clear HB; have HO187 := n0_; have HB := n1_; clear n0_ n1_; (try clear hb); (try clear hb2); (try clear hk); (try clear hi)))
       go_roundg k1
       case measure => have := HK1.out; omega
       case rel => exact ⟨(x7_1 ++ t188), (t188), (wrap64 (x9_1 + 1)), (by first | rfl | (simp; done) | (simp [*]; done)), (by first | rfl | (simp; done) | (simp [*]; done)), (by first | rfl | (simp; done) | (simp [*]; done)), H', ⟨by have := HK1.out; omega⟩, ⟨by repeat (first | (with_reducible first | exact HB.out | apply zL | apply zP | apply zW) | exact HB.out)⟩⟩
      ·rw [if_neg c8] at H
       exact absurd H (by simp)
     ·rw [if_neg c6] at H
      exact absurd H (by simp)
    ·rw [if_neg c5] at H
     exact absurd H (by simp)
   ·rw [if_neg c4] at H
    have c4b0 : decide ((x7_1.size : Int) < a2) = false := decide_eq_false c4
    clear c4
    by_cases c13 : 0 ≤ a2
    ·rw [if_pos c13] at H
     have c13b0 := eq_true c13
     have c13b1 : decide (0 ≤ a2) = true := decide_eq_true c13
     clear c13
     by_cases c14 : a2 ≤ (x7_1.size : Int)
     ·rw [if_pos c14] at H
      have c14b0 := eq_true c14
      have c14b1 : decide (a2 ≤ (x7_1.size : Int)) = true := decide_eq_true c14
      clear c14
      obtain rfl := Option.some.inj H
      go_wp2
      go_ret
      exact ⟨by first | rfl | (simp [errW_none, errW_some] <;> rfl) | (simp [*, errW_none, errW_some] <;> rfl), by repeat (first | (with_reducible first | exact HB.out | apply zL | apply zP | apply zW) | exact HB.out)⟩
     ·rw [if_neg c14] at H
      exact absurd H (by simp)
    ·rw [if_neg c13] at H
     exact absurd H (by simp)
def lodestoneref09_Keys.f (k : Nat) (a0 : ByteArray) (a1 : Int) : Option (ByteArray × ByteArray) := (lodestoneref01_Tag.f (⟨#[108, 111, 100, 101, 115, 116, 111, 110, 101]⟩ : ByteArray) a0).bind fun t189 => ((lodestoneref04_High.f k (IntKind.u64.wrap (a1)) 4).bind fun t190 => (if 5 + t190.size ≤ 9223372036854775807 then ((lodestoneref01_Expand.f k t189 ((⟨#[101, 112, 111, 99, 104]⟩ : ByteArray) ++ t190) 64).bind fun t191 => (if 0 ≤ 32 then (if 32 ≤ (t191.size : Int) then (some (t191.extract 0 32, t191.extract 32 t191.size)) else (none)) else (none))) else (none)))
theorem lodestoneref09_Keys.mono : ∀ a0 a1 k, LeO (lodestoneref09_Keys.f k a0 a1) (lodestoneref09_Keys.f (k + 1) a0 a1) := by
 intro a0 a1 k
 unfold lodestoneref09_Keys.f
 repeat' first
   | (with_reducible exact lodestoneref01_Expand.mono _ _ _ _)
   | (with_reducible exact lodestoneref04_High.mono _ _ _)
   | (with_reducible exact LeO.refl _)
   | (with_reducible exact LeO.none _)
   | (with_reducible refine LeO.ite ?_ ?_)
   | (with_reducible refine LeO.bind ?_ (fun _ => ?_))
   | exact lodestoneref01_Expand.mono _ _ _ _
   | exact lodestoneref04_High.mono _ _ _
   | exact LeO.none _
   | refine LeO.ite ?_ ?_
   | refine LeO.bind ?_ (fun _ => ?_)
set_option maxHeartbeats 8000000 in
set_option maxRecDepth 100000 in
theorem lodestoneref09_Keys.calls (k : Nat) (a0 : ByteArray) (a1 : Int) (r1 : ByteArray) (r2 : ByteArray) (w : World) (h : lodestoneref09_Keys.f k a0 a1 = some (r1, r2)) :
  Calls Tryd.prog 11 #[.string a0, .int .u32 a1] w fun e w' => e = .returned (.tuple #[.string r1, .string r2]) ∧ Below w.heap.size w w' := by
 have HB := zM (Below.refl w.heap.size w)
 have H : ((lodestoneref01_Tag.f (⟨#[108, 111, 100, 101, 115, 116, 111, 110, 101]⟩ : ByteArray) a0).bind fun t189 => ((lodestoneref04_High.f k (IntKind.u64.wrap (a1)) 4).bind fun t190 => (if 5 + t190.size ≤ 9223372036854775807 then ((lodestoneref01_Expand.f k t189 ((⟨#[101, 112, 111, 99, 104]⟩ : ByteArray) ++ t190) 64).bind fun t191 => (if 0 ≤ 32 then (if 32 ≤ (t191.size : Int) then (some (t191.extract 0 32, t191.extract 32 t191.size)) else (none)) else (none))) else (none)))) = some (r1, r2) := h
 clear h
 replace H := Option.bind_eq_some_iff.mp H
 obtain ⟨t189, A30, H⟩ := H
 replace H : ((lodestoneref04_High.f k (IntKind.u64.wrap (a1)) 4).bind fun t190 => (if 5 + t190.size ≤ 9223372036854775807 then ((lodestoneref01_Expand.f k t189 ((⟨#[101, 112, 111, 99, 104]⟩ : ByteArray) ++ t190) 64).bind fun t191 => (if 0 ≤ 32 then (if 32 ≤ (t191.size : Int) then (some (t191.extract 0 32, t191.extract 32 t191.size)) else (none)) else (none))) else (none))) = some (r1, r2) := H
 have A3 := zM A30
 clear A30
 replace H := Option.bind_eq_some_iff.mp H
 obtain ⟨t190, A40, H⟩ := H
 replace H : (if 5 + t190.size ≤ 9223372036854775807 then ((lodestoneref01_Expand.f k t189 ((⟨#[101, 112, 111, 99, 104]⟩ : ByteArray) ++ t190) 64).bind fun t191 => (if 0 ≤ 32 then (if 32 ≤ (t191.size : Int) then (some (t191.extract 0 32, t191.extract 32 t191.size)) else (none)) else (none))) else (none)) = some (r1, r2) := H
 have A4 := zM A40
 clear A40
 by_cases c5 : 5 + t190.size ≤ 9223372036854775807
 ·rw [if_pos c5] at H
  have c5b0 := eq_true c5
  have c5b1 : decide (5 + t190.size ≤ 9223372036854775807) = true := decide_eq_true c5
  try have c5b2 : (9223372036854775807 < 5 + t190.size) = False := eq_false (Nat.not_lt.2 c5)
  replace H := Option.bind_eq_some_iff.mp H
  obtain ⟨t191, A60, H⟩ := H
  replace H : (if 0 ≤ 32 then (if 32 ≤ (t191.size : Int) then (some (t191.extract 0 32, t191.extract 32 t191.size)) else (none)) else (none)) = some (r1, r2) := H
  have A6 := zM A60
  clear A60
  by_cases c7 : 0 ≤ 32
  ·rw [if_pos c7] at H
   have c7b0 := eq_true c7
   have c7b1 : decide (0 ≤ 32) = true := decide_eq_true c7
   clear c7
   by_cases c8 : 32 ≤ (t191.size : Int)
   ·rw [if_pos c8] at H
    have c8b0 := eq_true c8
    have c8b1 : decide (32 ≤ (t191.size : Int)) = true := decide_eq_true c8
    clear c8
    have c9b0 := eq_true (of_decide_eq_true (by first | (with_reducible assumption) | assumption) : 32 ≤ (t191.size : Int))
    simp only [Option.some.injEq, Prod.mk.injEq] at H
    obtain ⟨rfl, rfl⟩ := H
    go_enter Tryd.func11, Tryd.ntmps11
    go_wp2_with (first | (go_at_call 12; (with_reducible refine (lodestoneref01_Tag.calls (⟨#[108, 111, 100, 101, 115, 116, 111, 110, 101]⟩ : ByteArray) a0 t189 _ A3.out).mono ?_); rintro e w10 ⟨rfl, hb⟩; have n0_ := zM (below_step (by repeat (first | (with_reducible first | exact HB.out | apply zL | apply zP | apply zW) | exact HB.out)) hb); clear HB; have HB := n0_; clear n0_; (try clear hb); (try clear hb2); (try clear hk); (try clear hi)) | (go_at_call 24; (with_reducible refine (lodestoneref04_High.calls k (IntKind.u64.wrap (a1)) 4 t190 _ A4.out).mono ?_); rintro e w11 ⟨rfl, hb⟩; have n0_ := zM (below_step (by repeat (first | (with_reducible first | exact HB.out | apply zL | apply zP | apply zW) | exact HB.out)) hb); clear HB; have HB := n0_; clear n0_; (try clear hb); (try clear hb2); (try clear hk); (try clear hi)) | (go_at_call 26; (with_reducible refine (lodestoneref01_Expand.calls k t189 ((⟨#[101, 112, 111, 99, 104]⟩ : ByteArray) ++ t190) 64 t191 _ A6.out).mono ?_); rintro e w12 ⟨rfl, hb⟩; have n0_ := zM (below_step (by repeat (first | (with_reducible first | exact HB.out | apply zL | apply zP | apply zW) | exact HB.out)) hb); clear HB; have HB := n0_; clear n0_; (try clear hb); (try clear hb2); (try clear hk); (try clear hi)))
    repeat (go_quiet (first | (go_at_call 12; (with_reducible refine (lodestoneref01_Tag.calls (⟨#[108, 111, 100, 101, 115, 116, 111, 110, 101]⟩ : ByteArray) a0 t189 _ A3.out).mono ?_); rintro e w10 ⟨rfl, hb⟩; have n0_ := zM (below_step (by repeat (first | (with_reducible first | exact HB.out | apply zL | apply zP | apply zW) | exact HB.out)) hb); clear HB; have HB := n0_; clear n0_; (try clear hb); (try clear hb2); (try clear hk); (try clear hi)) | (go_at_call 24; (with_reducible refine (lodestoneref04_High.calls k (IntKind.u64.wrap (a1)) 4 t190 _ A4.out).mono ?_); rintro e w11 ⟨rfl, hb⟩; have n0_ := zM (below_step (by repeat (first | (with_reducible first | exact HB.out | apply zL | apply zP | apply zW) | exact HB.out)) hb); clear HB; have HB := n0_; clear n0_; (try clear hb); (try clear hb2); (try clear hk); (try clear hi)) | (go_at_call 26; (with_reducible refine (lodestoneref01_Expand.calls k t189 ((⟨#[101, 112, 111, 99, 104]⟩ : ByteArray) ++ t190) 64 t191 _ A6.out).mono ?_); rintro e w12 ⟨rfl, hb⟩; have n0_ := zM (below_step (by repeat (first | (with_reducible first | exact HB.out | apply zL | apply zP | apply zW) | exact HB.out)) hb); clear HB; have HB := n0_; clear n0_; (try clear hb); (try clear hb2); (try clear hk); (try clear hi))); try go_wp2_with (first | (go_at_call 12; (with_reducible refine (lodestoneref01_Tag.calls (⟨#[108, 111, 100, 101, 115, 116, 111, 110, 101]⟩ : ByteArray) a0 t189 _ A3.out).mono ?_); rintro e w10 ⟨rfl, hb⟩; have n0_ := zM (below_step (by repeat (first | (with_reducible first | exact HB.out | apply zL | apply zP | apply zW) | exact HB.out)) hb); clear HB; have HB := n0_; clear n0_; (try clear hb); (try clear hb2); (try clear hk); (try clear hi)) | (go_at_call 24; (with_reducible refine (lodestoneref04_High.calls k (IntKind.u64.wrap (a1)) 4 t190 _ A4.out).mono ?_); rintro e w11 ⟨rfl, hb⟩; have n0_ := zM (below_step (by repeat (first | (with_reducible first | exact HB.out | apply zL | apply zP | apply zW) | exact HB.out)) hb); clear HB; have HB := n0_; clear n0_; (try clear hb); (try clear hb2); (try clear hk); (try clear hi)) | (go_at_call 26; (with_reducible refine (lodestoneref01_Expand.calls k t189 ((⟨#[101, 112, 111, 99, 104]⟩ : ByteArray) ++ t190) 64 t191 _ A6.out).mono ?_); rintro e w12 ⟨rfl, hb⟩; have n0_ := zM (below_step (by repeat (first | (with_reducible first | exact HB.out | apply zL | apply zP | apply zW) | exact HB.out)) hb); clear HB; have HB := n0_; clear n0_; (try clear hb); (try clear hb2); (try clear hk); (try clear hi))))
    go_ret2
    exact ⟨by first | rfl | (simp [errW_none, errW_some] <;> rfl) | (simp [*, errW_none, errW_some] <;> rfl), by repeat (first | (with_reducible first | exact HB.out | apply zL | apply zP | apply zW) | exact HB.out)⟩
   ·rw [if_neg c8] at H
    exact absurd H (by simp)
  ·rw [if_neg c7] at H
   exact absurd H (by simp)
 ·rw [if_neg c5] at H
  exact absurd H (by simp)
def lodestoneref03_Block.f (a0 a1 : ByteArray) (a2 : Int) : Option ByteArray := if a0.size = 32 ∧ a1.size = 12 ∧ 0 ≤ a2 ∧ a2 < 4294967296 then some (Go.Proofs.YtgbhjkkfleeodaaDoor.Cha.blk a0 a1 a2) else none
theorem lodestoneref03_Block.calls (a0 : ByteArray) (a1 : ByteArray) (a2 : Int) (r : ByteArray) (w : World) (h : lodestoneref03_Block.f a0 a1 a2 = some r) :
  Calls Tryd.prog 55 #[.string a0, .string a1, .int .u32 a2] w fun e w' => e = .returned (.string r) ∧ Below w.heap.size w w' := by
 unfold lodestoneref03_Block.f at h
 by_cases c : a0.size = 32 ∧ a1.size = 12 ∧ 0 ≤ a2 ∧ a2 < 4294967296
 ·rw [if_pos c] at h
  obtain rfl := Option.some.inj h
  exact Go.Proofs.YtgbhjkkfleeodaaDoor.Cha.refblock_calls a0 a1 a2 c.1 c.2.1 ⟨c.2.2.1, c.2.2.2⟩ w
 ·rw [if_neg c] at h
  exact absurd h (by simp)
mutual
def lodestoneref03_Turn.l0 : Nat → ByteArray → ByteArray → ByteArray → List Int → Int → Option (ByteArray)
 | 0, _, _, _, _, _ => none
 | k + 1, x0, x1, x2, x7, x8 => if x8 < (x2.size : Int) then ((lodestoneref03_Block.f x0 x1 ((wrap64 (Int.tdiv x8 64)) % 4294967296)).bind fun t195 => (lodestoneref03_Turn.l1 k x0 x1 x2 x7 x8 t195 x8)) else (some (strOfNums x7))
def lodestoneref03_Turn.l1 : Nat → ByteArray → ByteArray → ByteArray → List Int → Int → ByteArray → Int → Option (ByteArray)
 | 0, _, _, _, _, _, _, _ => none
 | k + 1, x0, x1, x2, x7, x8, x9, x10 => if x10 < (wrap64 (x8 + 64)) then (if x10 < (x2.size : Int) then (if 0 ≤ x10 then (if 0 ≤ (wrap64 (x10 - x8)) then (if (wrap64 (x10 - x8)) < (x9.size : Int) then (if x7.length < 140737488355328 then (lodestoneref03_Turn.l1 k x0 x1 x2 (x7 ++ [Go.bits .xor .u8 (bt x2 x10) (bt x9 (wrap64 (x10 - x8)))]) x8 x9 (wrap64 (x10 + 1))) else (none)) else (none)) else (none)) else (none)) else (lodestoneref03_Turn.l0 k x0 x1 x2 x7 (wrap64 (x8 + 64)))) else (lodestoneref03_Turn.l0 k x0 x1 x2 x7 (wrap64 (x8 + 64)))
end
def lodestoneref03_Turn.f (k : Nat) (a0 : ByteArray) (a1 : ByteArray) (a2 : ByteArray) : Option (ByteArray) := lodestoneref03_Turn.l0 k a0 a1 a2 (([] : List Int)) 0
theorem lodestoneref03_Turn.mono_l : ∀ k, (∀ y0 y1 y2 y3 y4, LeO (lodestoneref03_Turn.l0 k y0 y1 y2 y3 y4) (lodestoneref03_Turn.l0 (k + 1) y0 y1 y2 y3 y4)) ∧ (∀ y0 y1 y2 y3 y4 y5 y6, LeO (lodestoneref03_Turn.l1 k y0 y1 y2 y3 y4 y5 y6) (lodestoneref03_Turn.l1 (k + 1) y0 y1 y2 y3 y4 y5 y6))
 | 0 => ⟨fun _ _ _ _ _ r h => by simp [lodestoneref03_Turn.l0] at h, fun _ _ _ _ _ _ _ r h => by simp [lodestoneref03_Turn.l1] at h⟩
 | k + 1 => by
  obtain ⟨ih0, ih1⟩ := lodestoneref03_Turn.mono_l k
  refine ⟨?_, ?_⟩
  ·intro y0 y1 y2 y3 y4
   unfold lodestoneref03_Turn.l0
   repeat' first
   | (with_reducible exact ih0 _ _ _ _ _)
   | (with_reducible exact ih1 _ _ _ _ _ _ _)
   | (with_reducible exact LeO.refl _)
   | (with_reducible exact LeO.none _)
   | (with_reducible refine LeO.ite ?_ ?_)
   | (with_reducible refine LeO.bind ?_ (fun _ => ?_))
   | exact ih0 _ _ _ _ _
   | exact ih1 _ _ _ _ _ _ _
   | exact LeO.none _
   | refine LeO.ite ?_ ?_
   | refine LeO.bind ?_ (fun _ => ?_)
  ·intro y0 y1 y2 y3 y4 y5 y6
   unfold lodestoneref03_Turn.l1
   repeat' first
   | (with_reducible exact ih0 _ _ _ _ _)
   | (with_reducible exact ih1 _ _ _ _ _ _ _)
   | (with_reducible exact LeO.refl _)
   | (with_reducible exact LeO.none _)
   | (with_reducible refine LeO.ite ?_ ?_)
   | (with_reducible refine LeO.bind ?_ (fun _ => ?_))
   | exact ih0 _ _ _ _ _
   | exact ih1 _ _ _ _ _ _ _
   | exact LeO.none _
   | refine LeO.ite ?_ ?_
   | refine LeO.bind ?_ (fun _ => ?_)
theorem lodestoneref03_Turn.mono : ∀ a0 a1 a2 k, LeO (lodestoneref03_Turn.f k a0 a1 a2) (lodestoneref03_Turn.f (k + 1) a0 a1 a2) := by
 intro a0 a1 a2 k
 obtain ⟨ih0, ih1⟩ := lodestoneref03_Turn.mono_l k
 unfold lodestoneref03_Turn.f
 repeat' first
   | (with_reducible exact ih0 _ _ _ _ _)
   | (with_reducible exact ih1 _ _ _ _ _ _ _)
   | (with_reducible exact LeO.refl _)
   | (with_reducible exact LeO.none _)
   | (with_reducible refine LeO.ite ?_ ?_)
   | (with_reducible refine LeO.bind ?_ (fun _ => ?_))
   | exact ih0 _ _ _ _ _
   | exact ih1 _ _ _ _ _ _ _
   | exact LeO.none _
   | refine LeO.ite ?_ ?_
   | refine LeO.bind ?_ (fun _ => ?_)
def lodestoneref03_Turn.T9 : Bool × List (List Nat × List Nat) := (true, [([], []), ([], []), ([], []), ([1, 2], [1, 2]), ([], []), ([], []), ([], []), ([5, 6], [5, 6]), ([4, 7], [4, 7]), ([3, 8], [3, 8]), ([9], [9]), ([0, 10], [0, 10]), ([11, 11, 0, 1, 2, 3, 4, 5, 6, 7, 8, 9, 10, 11], [0, 11])])
def lodestoneref03_Turn.B9 : List Nat := [0, 0, 0, 6, 0, 0, 0, 96, 240, 510, 1022, 2047, 4095]
theorem lodestoneref03_Turn.tab9 : rtab .any (opsOf Tryd.f29 9) = lodestoneref03_Turn.T9 := by kernel_rfl
theorem lodestoneref03_Turn.bits9 : waitsOk lodestoneref03_Turn.T9.2 lodestoneref03_Turn.B9 = true := by kernel_rfl
set_option maxHeartbeats 8000000 in
set_option maxRecDepth 100000 in
theorem lodestoneref03_Turn.calls (k : Nat) (a0 : ByteArray) (a1 : ByteArray) (a2 : ByteArray) (r : ByteArray) (w : World) (h : lodestoneref03_Turn.f k a0 a1 a2 = some r) :
  Calls Tryd.prog 29 #[.string a0, .string a1, .string a2] w fun e w' => e = .returned (.string r) ∧ Below w.heap.size w w' := by
 have HB := zM (Below.refl w.heap.size w)
 have H : (lodestoneref03_Turn.l0 k a0 a1 a2 (([] : List Int)) 0) = some r := h
 clear h
 obtain ⟨y192, hy192⟩ : ∃ y_ : List Int, y_ = (([] : List Int)) := ⟨_, rfl⟩
 replace H : (lodestoneref03_Turn.l0 k a0 a1 a2 y192 0) = some r := by first | (rw [hy192]; with_reducible exact H) | (have H2_ := (Option.bind_some _ _).symm.trans H; rw [hy192]; with_reducible exact H2_) | (have H2_ := (Option.bind_some _ _).symm.trans H; with_reducible exact H2_) | with_reducible exact H | (rw [hy192]; exact H) | exact H
 have Ny192 := zM hy192
 clear hy192
 have H' := zM H
 clear H
 go_enter Tryd.func29, Tryd.ntmps29
 go_wp2_with (first | ((with_reducible refine gate_dst (N := 11) rfl ?_); (try (refine gate_guard (by rfl) ?_; dsimp only)); refine Kd.R_lit (Kd.int .u8) _ 5 ?hg (N := 11) ?hd (xs := ([] : List Int)) (inner := []) (ok := fun _ => True) (okp := fun _ => True) ?hr ?hp (fun _ hk => hk) trivial (Below.refl _ _) (Nat.le_refl _) (by simp) ?_; (case hd => rfl); (case hg => rfl); (case hr => first | (go_simp; done) | (go_simp; rfl)); (case hp => exact (Reps.none _ _)); intro v193 w4 ho5 hb hg_ hnew_; clear hg_ hnew_; (first | rw [← Ny192.out] at ho5 | (simp only [Int.reduceToNat] at ho5; rw [← Ny192.out] at ho5)); have n0_ := zM (Kd.R_lower ho5 (below_size (by repeat (first | (with_reducible first | exact HB.out | apply zL | apply zP | apply zW) | exact HB.out)))); have n1_ := zM (below_step (by repeat (first | (with_reducible first | exact HB.out | apply zL | apply zP | apply zW) | exact HB.out)) hb); clear HB; have HO194 := n0_; have HB := n1_; clear n0_ n1_; clear hb ho5))
 go_loopg [7, 8] k (fun kq v7 v8 w' => ∃ (x7_1 : List Int) (x8_1 : Int), v8 = .int .i64 x8_1 ∧ Aside0 (lodestoneref03_Turn.l0 kq a0 a1 a2 x7_1 x8_1 = some r) ∧ Aside0 (kq ≤ k) ∧ Aside0 (Kd.R (Kd.int .u8) 5 w' w.heap.size (fun _ => True) v7 x7_1) ∧ Aside0 (Below w.heap.size w w'))
 case atStart => exact ⟨(y192), (0), (by first | rfl | (simp; done) | (simp [*]; done)), H', ⟨Nat.le_refl _⟩, ⟨by (with_reducible repeat (first | apply Kd.R_alloc | apply Kd.R_drewN | apply Kd.R_drew)); exact HO194.out⟩, ⟨by repeat (first | (with_reducible first | exact HB.out | apply zL | apply zP | apply zW) | exact HB.out)⟩⟩
 case round =>
  clear H'
  try clear c2
  try clear p2
  obtain ⟨x7_1, x8_1, rfl, HA, HK1, HO_7, HB⟩ := hrel
  cases gk with
  | zero => exact absurd HA.out (by simp [lodestoneref03_Turn.l0])
  | succ k1 =>
   have H := HA.out
   clear HA
   simp only [lodestoneref03_Turn.l0] at H
   by_cases c6 : x8_1 < (a2.size : Int)
   ·rw [if_pos c6] at H
    have c6b0 : decide (x8_1 < (a2.size : Int)) = true := decide_eq_true c6
    clear c6
    replace H := Option.bind_eq_some_iff.mp H
    obtain ⟨t195, A70, H⟩ := H
    replace H : (lodestoneref03_Turn.l1 k1 a0 a1 a2 x7_1 x8_1 t195 x8_1) = some r := H
    have A7 := zM A70
    clear A70
    have H' := zM H
    clear H
    go_wp2_with (first | ((with_reducible refine gate_callee (f := 55) rfl ?_); refine goesL_ (some 23) rfl rfl Tryd.func55 (by kernel_rfl) rfl #[.string a0, .string a1, .int .u32 ((wrap64 (Int.tdiv x8_1 64)) % 4294967296)] rfl (by (try simp only [zY, List.map_cons, List.map_nil]); first | done | rfl | (simp only [zV, zX]; rfl)) ?_; (with_reducible refine (lodestoneref03_Block.calls a0 a1 ((wrap64 (Int.tdiv x8_1 64)) % 4294967296) t195 _ A7.out).mono ?_); rintro e w8 ⟨rfl, hb⟩; refine ⟨_, rfl, ?_⟩; have n0_ := zM (Kd.R_below (by (with_reducible repeat (first | apply Kd.R_alloc | apply Kd.R_drewN | apply Kd.R_drew)); exact HO_7.out) hb); have n1_ := zM (below_step (by repeat (first | (with_reducible first | exact HB.out | apply zL | apply zP | apply zW) | exact HB.out)) hb); clear HO_7; clear HB; have HO_7 := n0_; have HB := n1_; clear n0_ n1_; (try clear hb); (try clear hb2); (try clear hk); (try clear hi)))
    go_loopg [7, 10] k1 (fun kq v7 v10 w' => ∃ (x7_2 : List Int) (x10_2 : Int), v10 = .int .i64 x10_2 ∧ Aside0 (lodestoneref03_Turn.l1 kq a0 a1 a2 x7_2 x8_1 t195 x10_2 = some r) ∧ Aside0 (kq ≤ k1) ∧ Aside0 (Kd.R (Kd.int .u8) 5 w' w.heap.size (fun _ => True) v7 x7_2) ∧ Aside0 (Below w.heap.size w w'))
    case atStart => exact ⟨(x7_1), (x8_1), (by first | rfl | (simp; done) | (simp [*]; done)), H', ⟨Nat.le_refl _⟩, ⟨by (with_reducible repeat (first | apply Kd.R_alloc | apply Kd.R_drewN | apply Kd.R_drew)); exact HO_7.out⟩, ⟨by repeat (first | (with_reducible first | exact HB.out | apply zL | apply zP | apply zW) | exact HB.out)⟩⟩
    case round =>
     clear H'
     try clear c2
     try clear p2
     try clear c5
     try clear c6
     try clear c6b0
     try clear p6
     try clear p2
     obtain ⟨x7_2, x10_2, rfl, HA, HK2, HO_7, HB⟩ := hrel
     cases gk with
     | zero => exact absurd HA.out (by simp [lodestoneref03_Turn.l1])
     | succ k2 =>
      have H := HA.out
      clear HA
      simp only [lodestoneref03_Turn.l1] at H
      by_cases c9 : x10_2 < (wrap64 (x8_1 + 64))
      ·rw [if_pos c9] at H
       have c9b0 : decide (x10_2 < (wrap64 (x8_1 + 64))) = true := decide_eq_true c9
       clear c9
       by_cases c10 : x10_2 < (a2.size : Int)
       ·rw [if_pos c10] at H
        have c10b0 : decide (x10_2 < (a2.size : Int)) = true := decide_eq_true c10
        clear c10
        by_cases c11 : 0 ≤ x10_2
        ·rw [if_pos c11] at H
         have c11b0 : decide (0 ≤ x10_2) = true := decide_eq_true c11
         clear c11
         obtain ⟨ji13, hji13⟩ : ∃ j_ : Int, (wrap64 (x10_2 - x8_1)) = j_ := ⟨_, rfl⟩
         replace H : (if 0 ≤ (ji13) then (if (ji13) < (t195.size : Int) then (if x7_2.length < 140737488355328 then (lodestoneref03_Turn.l1 k2 a0 a1 a2 (x7_2 ++ [Go.bits .xor .u8 (bt a2 x10_2) (bt t195 (ji13))]) x8_1 t195 (wrap64 (x10_2 + 1))) else (none)) else (none)) else (none)) = some r := by first | (rw [hji13] at H; exact H) | (simp only [hji13] at H ⊢; exact H)
         have hji13w : (IntKind.i64.wrap (x10_2 - x8_1)) = ji13 := (i64_w _).trans hji13
         by_cases c14 : 0 ≤ (ji13)
         ·rw [if_pos c14] at H
          have c14b0 : decide (0 ≤ (ji13)) = true := decide_eq_true c14
          clear c14
          by_cases c15 : (ji13) < (t195.size : Int)
          ·rw [if_pos c15] at H
           have c15b0 : decide ((ji13) < (t195.size : Int)) = true := decide_eq_true c15
           clear c15
           by_cases c17 : x7_2.length < 140737488355328
           ·rw [if_pos c17] at H
            have LMc17 := zM c17
            clear c17
            obtain ⟨y196, hy196⟩ : ∃ y_ : List Int, y_ = (x7_2 ++ [Go.bits .xor .u8 (bt a2 x10_2) (bt t195 (ji13))]) := ⟨_, rfl⟩
            replace H : (lodestoneref03_Turn.l1 k2 a0 a1 a2 y196 x8_1 t195 (wrap64 (x10_2 + 1))) = some r := by first | (rw [hy196]; with_reducible exact H) | (have H2_ := (Option.bind_some _ _).symm.trans H; rw [hy196]; with_reducible exact H2_) | (have H2_ := (Option.bind_some _ _).symm.trans H; with_reducible exact H2_) | with_reducible exact H | (rw [hy196]; exact H) | exact H
            have Ny196 := zM hy196
            clear hy196
            have H' := zM H
            clear H
            try go_wp2
            have n0_ := zM (Kd.R_drew HO_7.out)
            have n1_ := zM (zW HB.out)
            clear HO_7
            clear HB
            have HO_7 := n0_
            have HB := n1_
            clear n0_ n1_
            have p12 : 0 ≤ (x10_2 : Int) := of_decide_eq_true (by first | (with_reducible assumption) | assumption)
            have q12 : x10_2 < (a2.size : Int) := of_decide_eq_true (by first | (with_reducible assumption) | assumption)
            have hx12 := bt_at a2 x10_2
            replace p12 := eq_true p12
            replace q12 := eq_true q12
            have p16 : 0 ≤ ((ji13) : Int) := of_decide_eq_true (by first | (with_reducible assumption) | assumption)
            have q16 : (ji13) < (t195.size : Int) := of_decide_eq_true (by first | (with_reducible assumption) | assumption)
            have hx16 := bt_at t195 (ji13)
            replace p16 := eq_true p16
            replace q16 := eq_true q16
            refine start_ (n := 13) (S := fun w' => True) (ds := []) zb6_0 (by kernel_rfl) rfl rfl trivial (fun hHeld => ?_); refine with_tabW lodestoneref03_Turn.tab9 lodestoneref03_Turn.bits9 (fun HT_ HW_ => ?_)
            generalize wr.drew = w18 at HO_7 HB hHeld ⊢
            refine pure_ (i := 0) (N := some 37) (v := ?_) (a' := ?_) zb6_1 rfl rfl (any_of HT_.out (by kernel_rfl)) (fun _ _ _ h => h) (Or.inl ⟨by rfl, ?_⟩) ?_ ?_
            rotate_left
            ·intro w'
             go_simp
             with_reducible rfl
            rotate_left
            ·simp only [Act.put, zT, zZ, zU, i64_w, i32_w]
             rfl
            refine pure_ (i := 1) (N := some 38) (v := ?_) (a' := ?_) zb6_2 rfl rfl (any_of HT_.out (by kernel_rfl)) (fun _ _ _ h => h) (Or.inl ⟨by rfl, ?_⟩) ?_ ?_
            rotate_left
            ·intro w'
             go_simp
             with_reducible rfl
            rotate_left
            ·simp only [Act.put, zT, zZ, zU, i64_w, i32_w]
             rfl
            refine pure_ (i := 2) (N := some 39) (v := ?_) (a' := ?_) zb6_3 rfl rfl (any_of HT_.out (by kernel_rfl)) (fun _ _ _ h => h) (Or.inl ⟨by rfl, ?_⟩) ?_ ?_
            rotate_left
            ·intro w'
             go_simp
             with_reducible rfl
            rotate_left
            ·simp only [Act.put, zT, zZ, zU, i64_w, i32_w]
             rfl
            refine pure_ (i := 4) (N := some 41) (v := ?_) (a' := ?_) zb6_4 rfl rfl (any_of HT_.out (by kernel_rfl)) (fun _ _ _ h => h) (Or.inl ⟨by rfl, ?_⟩) ?_ ?_
            rotate_left
            ·intro w'
             go_simp
             with_reducible rfl
            rotate_left
            ·simp only [Act.put, zT, zZ, zU, i64_w, i32_w]
             rfl
            refine pure_ (i := 5) (N := some 42) (v := ?_) (a' := ?_) zb6_5 rfl rfl (any_of HT_.out (by kernel_rfl)) (fun _ _ _ h => h) (Or.inl ⟨by rfl, ?_⟩) ?_ ?_
            rotate_left
            ·intro w'
             go_simp
             with_reducible rfl
            rotate_left
            ·simp only [Act.put, zT, zZ, zU, i64_w, i32_w]
             rfl
            refine pure_ (i := 6) (N := some 43) (v := ?_) (a' := ?_) zb6_6 rfl rfl (any_of HT_.out (by kernel_rfl)) (fun _ _ _ h => h) (Or.inl ⟨by rfl, ?_⟩) ?_ ?_
            rotate_left
            ·intro w'
             go_simp
             with_reducible rfl
            rotate_left
            ·simp only [Act.put, zT, zZ, zU, i64_w, i32_w]
             rfl
            refine pure_ (i := 7) (N := some 44) (v := ?_) (a' := ?_) zb6_7 rfl rfl (any_of HT_.out (by kernel_rfl)) (fun _ _ _ h => h) (Or.inl ⟨by rfl, ?_⟩) ?_ ?_
            rotate_left
            ·intro w'
             go_simp
             with_reducible rfl
            rotate_left
            ·simp only [Act.put, zT, zZ, zU, i64_w, i32_w]
             rfl
            refine take_ (i := 3) (N := some 40) (v := ?_) (a' := ?_) zb6_8 rfl rfl (take_ofW HT_.out HW_.out (by kernel_rfl)) (fun _ _ _ h => h) (Or.inl ⟨by rfl, ?_⟩) hHeld ?_ ?_
            rotate_left
            ·intro w' _
             go_simp
             with_reducible rfl
            rotate_left
            ·simp only [Act.put, zT, zZ, zU, i64_w, i32_w]
             rfl
            refine take_ (i := 8) (N := some 45) (v := ?_) (a' := ?_) zb6_9 rfl rfl (take_ofW HT_.out HW_.out (by kernel_rfl)) (fun _ _ _ h => h) (Or.inl ⟨by rfl, ?_⟩) hHeld ?_ ?_
            rotate_left
            ·intro w' _
             go_simp
             with_reducible rfl
            rotate_left
            ·simp only [Act.put, zT, zZ, zU, i64_w, i32_w]
             rfl
            refine pure_ (i := 9) (N := some 46) (v := ?_) (a' := ?_) zb6_10 rfl rfl (any_of HT_.out (by kernel_rfl)) (fun _ _ _ h => h) (Or.inl ⟨by rfl, ?_⟩) ?_ ?_
            rotate_left
            ·intro w'
             go_simp
             with_reducible rfl
            rotate_left
            ·simp only [Act.put, zT, zZ, zU, i64_w, i32_w]
             rfl
            refine one_ (i := 10) (N := some 47) zb6_11 rfl rfl (one_of HT_.out (by kernel_rfl)) (by decide) (fun K hK => ?_)
            refine value_ (w1 := ?_) (v := ?_) (by rfl) rfl ?_ ?_
            rotate_left 2
            ·go_simp
             constructor
             ·rfl
             ·rfl
            refine hK.out _ _ trivial (fun hHeld => ?_)
            clear hK K
            refine norm_ (a' := ?_) ?_ ?_
            rotate_left
            ·show Act.put _ (some 47) _ = _
             simp only [Act.put, zT, zZ, zU, i64_w, i32_w]
             rfl
            refine one_ (i := 11) (N := some 48) zb6_12 rfl rfl (one_of HT_.out (by kernel_rfl)) (by decide) (fun K hK => ?_)
            refine Kd.R_append_step (Kd.int .u8) (w0 := w) w.heap.size (by rfl) (.tmp 37) (.tmp 47) 34 5 (.int .u8 0) 1 rfl Tryd.underlying34 info5 rfl (by decide) (by omega) u7 x7_2 (Go.bits .xor .u8 (bt a2 x10_2) (bt t195 (ji13))) [.int .u8 (Go.bits .xor .u8 (bt a2 x10_2) (bt t195 (ji13)))] (fun _ => True) (fun _ => False) rfl rfl ?aP (fun _ hk => hk.elim) ?aF ?aO ?aB ?aS ?aL ?_
            (case aP => exact rfl)
            (case aB => exact (by repeat (first | (with_reducible first | exact HB.out | apply zL | apply zP | apply zW) | exact HB.out)))
            (case aF => exact (fun _ _ => trivial))
            (case aO => exact (by (with_reducible repeat (first | apply Kd.R_alloc | apply Kd.R_drewN | apply Kd.R_drew)); exact HO_7.out))
            (case aS => exact (below_size (by repeat (first | (with_reducible first | exact HB.out | apply zL | apply zP | apply zW) | exact HB.out))))
            (case aL => have := LMc17.out; omega)
            intro v197 w19 ho hb hg hat
            rw [← Ny196.out] at ho
            have n0_ := zM (hb)
            have n1_ := zM (ho)
            clear HB
            clear HO_7
            have HB := n0_
            have HO198 := n1_
            clear n0_ n1_
            clear ho hb hg hat
            refine hK.out _ _ trivial (fun hHeld => ?_)
            clear hK K
            refine norm_ (a' := ?_) ?_ ?_
            rotate_left
            ·show Act.put _ (some 48) _ = _
             simp only [Act.put, zT, zZ, zU, i64_w, i32_w]
             rfl
            refine pure_ (i := 12) (N := some 7) (v := ?_) (a' := ?_) zb6_13 rfl rfl (any_of HT_.out (by kernel_rfl)) (fun _ _ _ h => h) (Or.inl ⟨by rfl, ?_⟩) ?_ ?_
            rotate_left
            ·intro w'
             go_simp
             with_reducible rfl
            rotate_left
            ·simp only [Act.put, zT, zZ, zU, i64_w, i32_w]
             rfl
            refine done_ (done_of HT_.out (by kernel_rfl)) ?_
            try go_wp2
            go_roundg k2
            case measure => have := HK1.out; have := HK2.out; omega
            case rel => exact ⟨(y196), (wrap64 (x10_2 + 1)), (by first | rfl | (simp; done) | (simp [*]; done)), H', ⟨by have := HK1.out; have := HK2.out; omega⟩, ⟨by (with_reducible repeat (first | apply Kd.R_alloc | apply Kd.R_drewN | apply Kd.R_drew)); exact HO198.out⟩, ⟨by repeat (first | (with_reducible first | exact HB.out | apply zL | apply zP | apply zW) | exact HB.out)⟩⟩
           ·rw [if_neg c17] at H
            exact absurd H (by simp)
          ·rw [if_neg c15] at H
           exact absurd H (by simp)
         ·rw [if_neg c14] at H
          exact absurd H (by simp)
        ·rw [if_neg c11] at H
         exact absurd H (by simp)
       ·rw [if_neg c10] at H
        have c10b0 : decide (x10_2 < (a2.size : Int)) = false := decide_eq_false c10
        clear c10
        have H' := zM H
        clear H
        go_wp2
        go_roundg k2
        case measure => have := HK1.out; have := HK2.out; omega
        case rel => exact ⟨(x7_2), (wrap64 (x8_1 + 64)), (by first | rfl | (simp; done) | (simp [*]; done)), H', ⟨by have := HK1.out; have := HK2.out; omega⟩, ⟨by (with_reducible repeat (first | apply Kd.R_alloc | apply Kd.R_drewN | apply Kd.R_drew)); exact HO_7.out⟩, ⟨by repeat (first | (with_reducible first | exact HB.out | apply zL | apply zP | apply zW) | exact HB.out)⟩⟩
      ·rw [if_neg c9] at H
       have c9b0 : decide (x10_2 < (wrap64 (x8_1 + 64))) = false := decide_eq_false c9
       clear c9
       have H' := zM H
       clear H
       go_wp2
       go_roundg k2
       case measure => have := HK1.out; have := HK2.out; omega
       case rel => exact ⟨(x7_2), (wrap64 (x8_1 + 64)), (by first | rfl | (simp; done) | (simp [*]; done)), H', ⟨by have := HK1.out; have := HK2.out; omega⟩, ⟨by (with_reducible repeat (first | apply Kd.R_alloc | apply Kd.R_drewN | apply Kd.R_drew)); exact HO_7.out⟩, ⟨by repeat (first | (with_reducible first | exact HB.out | apply zL | apply zP | apply zW) | exact HB.out)⟩⟩
   ·rw [if_neg c6] at H
    have c6b0 : decide (x8_1 < (a2.size : Int)) = false := decide_eq_false c6
    clear c6
    obtain rfl := Option.some.inj H
    have hcv20 := own_string (P := Tryd.prog) Tryd.underlying34 Tryd.underlying5 Tryd.underlying9 (Kd.own_of_R HO_7.out)
    go_wp2
    go_ret
    exact ⟨by first | rfl | (simp [errW_none, errW_some] <;> rfl) | (simp [*, errW_none, errW_some] <;> rfl), by repeat (first | (with_reducible first | exact HB.out | apply zL | apply zP | apply zW) | exact HB.out)⟩
def lodestoneref10_Seal.f (k : Nat) (a0 : ByteArray) (a1 : ByteArray) (a2 : Int) (a3 : ByteArray) (a4 : ByteArray) : Option (ByteArray) := (lodestoneref03_Turn.f k a0 a3 a4).bind fun t199 => ((lodestoneref04_High.f k ((a2) % 4294967296) 4).bind fun t200 => (if t200.size + a3.size ≤ 9223372036854775807 then (if (t200 ++ a3).size + t199.size ≤ 9223372036854775807 then ((lodestoneref01_Tag.f a1 ((t200 ++ a3) ++ t199)).bind fun t201 => (if t199.size + t201.size ≤ 9223372036854775807 then (some (t199 ++ t201)) else (none))) else (none)) else (none)))
theorem lodestoneref10_Seal.mono : ∀ a0 a1 a2 a3 a4 k, LeO (lodestoneref10_Seal.f k a0 a1 a2 a3 a4) (lodestoneref10_Seal.f (k + 1) a0 a1 a2 a3 a4) := by
 intro a0 a1 a2 a3 a4 k
 unfold lodestoneref10_Seal.f
 repeat' first
   | (with_reducible exact lodestoneref03_Turn.mono _ _ _ _)
   | (with_reducible exact lodestoneref04_High.mono _ _ _)
   | (with_reducible exact LeO.refl _)
   | (with_reducible exact LeO.none _)
   | (with_reducible refine LeO.ite ?_ ?_)
   | (with_reducible refine LeO.bind ?_ (fun _ => ?_))
   | exact lodestoneref03_Turn.mono _ _ _ _
   | exact lodestoneref04_High.mono _ _ _
   | exact LeO.none _
   | refine LeO.ite ?_ ?_
   | refine LeO.bind ?_ (fun _ => ?_)
set_option maxHeartbeats 8000000 in
set_option maxRecDepth 100000 in
theorem lodestoneref10_Seal.calls (k : Nat) (a0 : ByteArray) (a1 : ByteArray) (a2 : Int) (a3 : ByteArray) (a4 : ByteArray) (r : ByteArray) (w : World) (h : lodestoneref10_Seal.f k a0 a1 a2 a3 a4 = some r) :
  Calls Tryd.prog 25 #[.string a0, .string a1, .int .i64 a2, .string a3, .string a4] w fun e w' => e = .returned (.string r) ∧ Below w.heap.size w w' := by
 have HB := zM (Below.refl w.heap.size w)
 have H : ((lodestoneref03_Turn.f k a0 a3 a4).bind fun t199 => ((lodestoneref04_High.f k ((a2) % 4294967296) 4).bind fun t200 => (if t200.size + a3.size ≤ 9223372036854775807 then (if (t200 ++ a3).size + t199.size ≤ 9223372036854775807 then ((lodestoneref01_Tag.f a1 ((t200 ++ a3) ++ t199)).bind fun t201 => (if t199.size + t201.size ≤ 9223372036854775807 then (some (t199 ++ t201)) else (none))) else (none)) else (none)))) = some r := h
 clear h
 replace H := Option.bind_eq_some_iff.mp H
 obtain ⟨t199, A60, H⟩ := H
 replace H : ((lodestoneref04_High.f k ((a2) % 4294967296) 4).bind fun t200 => (if t200.size + a3.size ≤ 9223372036854775807 then (if (t200 ++ a3).size + t199.size ≤ 9223372036854775807 then ((lodestoneref01_Tag.f a1 ((t200 ++ a3) ++ t199)).bind fun t201 => (if t199.size + t201.size ≤ 9223372036854775807 then (some (t199 ++ t201)) else (none))) else (none)) else (none))) = some r := H
 have A6 := zM A60
 clear A60
 replace H := Option.bind_eq_some_iff.mp H
 obtain ⟨t200, A70, H⟩ := H
 replace H : (if t200.size + a3.size ≤ 9223372036854775807 then (if (t200 ++ a3).size + t199.size ≤ 9223372036854775807 then ((lodestoneref01_Tag.f a1 ((t200 ++ a3) ++ t199)).bind fun t201 => (if t199.size + t201.size ≤ 9223372036854775807 then (some (t199 ++ t201)) else (none))) else (none)) else (none)) = some r := H
 have A7 := zM A70
 clear A70
 by_cases c8 : t200.size + a3.size ≤ 9223372036854775807
 ·rw [if_pos c8] at H
  have c8b0 := eq_true c8
  have c8b1 : decide (t200.size + a3.size ≤ 9223372036854775807) = true := decide_eq_true c8
  try have c8b2 : (9223372036854775807 < t200.size + a3.size) = False := eq_false (Nat.not_lt.2 c8)
  by_cases c9 : (t200 ++ a3).size + t199.size ≤ 9223372036854775807
  ·rw [if_pos c9] at H
   have c9b0 := eq_true c9
   have c9b1 : decide ((t200 ++ a3).size + t199.size ≤ 9223372036854775807) = true := decide_eq_true c9
   try have c9b2 : (9223372036854775807 < (t200 ++ a3).size + t199.size) = False := eq_false (Nat.not_lt.2 c9)
   have c9q := c9
   simp only [ByteArray.size_append] at c9q
   have c9b9 := eq_false (Nat.not_lt.2 c9q)
   clear c9q
   replace H := Option.bind_eq_some_iff.mp H
   obtain ⟨t201, A100, H⟩ := H
   replace H : (if t199.size + t201.size ≤ 9223372036854775807 then (some (t199 ++ t201)) else (none)) = some r := H
   have A10 := zM A100
   clear A100
   by_cases c11 : t199.size + t201.size ≤ 9223372036854775807
   ·rw [if_pos c11] at H
    have c11b0 := eq_true c11
    have c11b1 : decide (t199.size + t201.size ≤ 9223372036854775807) = true := decide_eq_true c11
    try have c11b2 : (9223372036854775807 < t199.size + t201.size) = False := eq_false (Nat.not_lt.2 c11)
    obtain rfl := Option.some.inj H
    go_enter Tryd.func25, Tryd.ntmps25
    go_wp2_with (first | ((with_reducible refine gate_callee (f := 29) rfl ?_); refine goesL_ (some 15) rfl rfl Tryd.func29 (by kernel_rfl) rfl #[.string a0, .string a3, .string a4] rfl (by (try simp only [zY, List.map_cons, List.map_nil]); first | done | rfl | (simp only [zV, zX]; rfl)) ?_; (with_reducible refine (lodestoneref03_Turn.calls k a0 a3 a4 t199 _ A6.out).mono ?_); rintro e w12 ⟨rfl, hb⟩; refine ⟨_, rfl, ?_⟩; have n0_ := zM (below_step (by repeat (first | (with_reducible first | exact HB.out | apply zL | apply zP | apply zW) | exact HB.out)) hb); clear HB; have HB := n0_; clear n0_; (try clear hb); (try clear hb2); (try clear hk); (try clear hi)) | ((with_reducible refine gate_callee (f := 24) rfl ?_); refine goesL_ (some 21) rfl rfl Tryd.func24 (by kernel_rfl) rfl #[.int .u64 ((a2) % 4294967296), .int .i64 4] rfl (by (try simp only [zY, List.map_cons, List.map_nil]); first | done | rfl | (simp only [zV, zX]; rfl)) ?_; (with_reducible refine (lodestoneref04_High.calls k ((a2) % 4294967296) 4 t200 _ A7.out).mono ?_); rintro e w13 ⟨rfl, hb⟩; refine ⟨_, rfl, ?_⟩; have n0_ := zM (below_step (by repeat (first | (with_reducible first | exact HB.out | apply zL | apply zP | apply zW) | exact HB.out)) hb); clear HB; have HB := n0_; clear n0_; (try clear hb); (try clear hb2); (try clear hk); (try clear hi)) | ((with_reducible refine gate_callee (f := 12) rfl ?_); refine goesL_ (some 26) rfl rfl Tryd.func12 (by kernel_rfl) rfl #[.string a1, .string ((t200 ++ a3) ++ t199)] rfl (by (try simp only [zY, List.map_cons, List.map_nil]); first | done | rfl | (simp only [zV, zX]; rfl)) ?_; (with_reducible refine (lodestoneref01_Tag.calls a1 ((t200 ++ a3) ++ t199) t201 _ A10.out).mono ?_); rintro e w14 ⟨rfl, hb⟩; refine ⟨_, rfl, ?_⟩; have n0_ := zM (below_step (by repeat (first | (with_reducible first | exact HB.out | apply zL | apply zP | apply zW) | exact HB.out)) hb); clear HB; have HB := n0_; clear n0_; (try clear hb); (try clear hb2); (try clear hk); (try clear hi)))
    go_ret
    exact ⟨by first | rfl | (simp [errW_none, errW_some] <;> rfl) | (simp [*, errW_none, errW_some] <;> rfl), by repeat (first | (with_reducible first | exact HB.out | apply zL | apply zP | apply zW) | exact HB.out)⟩
   ·rw [if_neg c11] at H
    exact absurd H (by simp)
  ·rw [if_neg c9] at H
   exact absurd H (by simp)
 ·rw [if_neg c8] at H
  exact absurd H (by simp)
end Go.Proofs.YtgbhjkkfleeodaaDoor.PBlockPuts
