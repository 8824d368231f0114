-- Written by a program of this session's (the kit's print, with additions of my own). Not trusted: Lean checks it.
import Derived.Test.YtbohjpmnlglldaaPValuePutsx0
import Derived.Test.YtbohjpmnlglldaaPValuePutsx1
import Derived.Test.YtbohjpmnlglldaaPValuePutsx2
import Derived.Test.YtbohjpmnlglldaaPValuePutsx3
import Derived.Test.YtbohjpmnlglldaaPValuePutsx4
import Derived.Test.YtbohjpmnlglldaaPValuePutsx5
import Derived.Test.YtbohjpmnlglldaaPValuePutsx6
import Derived.Test.YtbohjpmnlglldaaXB
namespace Go.Proofs.Ytbohjpmnlglldaa.PValuePuts
open Go.RowKit Go.Proofs.YtbohjpmnlglldaaW.PrintWords Go.Proofs.YtbohjpmnlglldaaW.PrintLast Go.Proofs.YtbohjpmnlglldaaW.PrintMore
attribute [local go_sem] max2_int min2_int max_two min_two max_three min_three max_four min_four   -- for this text's walks alone
set_option linter.unusedVariables false
set_option linter.unusedSimpArgs false

attribute [local go_sem high] eqA23
/-! ### lodestonelaw23_ValuePuts: function 4 -/
mutual
def lodestonelaw23_ValuePuts.j0 : Nat → Int → Int → ByteArray → Option (Bool)
  | 0, _, _, _ => none
  | k + 1, x242000, x242001, x242002 => (value_Put.f k x242000 x242001 x242002).bind fun t245 => ((code_Read.f t245).bind fun bt246 => ((value_Take.f k bt246.1 bt246.2).bind fun bt249 => ((lodestonelaw23_awake.f k).bind fun t255 => (if t255 = true then ((lodestoneref23_Put.f k x242000 x242001 x242002).bind fun t256 => (if t245.toList = t256.toList then ((value_May.f x242000 x242001 x242002).bind fun t257 => ((lodestoneref23_May.f x242000 x242001 x242002).bind fun t258 => (if (t257 != t258) = true then (lodestonelaw23_ValuePuts.j1 k t245 true x242000 x242001 x242002 bt249.2.2.2.1 bt249.2.2.2.2 bt249.1 bt249.2.1 bt249.2.2.1) else ((value_Words.f x242000 x242001 x242002).bind fun t259 => ((lodestoneref23_Words.f x242000 x242001 x242002).bind fun t260 => (lodestonelaw23_ValuePuts.j1 k t245 (t259 != t260) x242000 x242001 x242002 bt249.2.2.2.1 bt249.2.2.2.2 bt249.1 bt249.2.1 bt249.2.2.1)))))) else (lodestonelaw23_ValuePuts.j1 k t245 true x242000 x242001 x242002 bt249.2.2.2.1 bt249.2.2.2.2 bt249.1 bt249.2.1 bt249.2.2.1))) else (lodestonelaw23_ValuePuts.j1 k t245 true x242000 x242001 x242002 bt249.2.2.2.1 bt249.2.2.2.2 bt249.1 bt249.2.1 bt249.2.2.1)))))
def lodestonelaw23_ValuePuts.j1 : Nat → ByteArray → Bool → Int → Int → ByteArray → ByteArray → Int → Int → Int → ByteArray → Option (Bool)
  | 0, _, _, _, _, _, _, _, _, _, _ => none
  | k + 1, x6, x49, x242000, x242001, x242002, x249000, x249001, x255000, x255001, x255002 => if x49 = true then (some false) else (if x6.toList = ([] : List UInt8) then (if (x255000 == 0 && (x255001 == 0 && (x255002.toList == ([] : List UInt8)))) = true then (some true) else ((code_Reader_End.f x249000 x249001).bind fun bt261 => (if bt261.1 = 0 then (if (x255000 == x242000 && (x255001 == x242001 && (x255002.toList == x242002.toList))) = true then ((value_Same.f x242000 x242001 x242002 x255000 x255001 x255002).bind fun t264 => (some t264)) else (some false)) else (some false)))) else ((code_Reader_End.f x249000 x249001).bind fun bt265 => (if bt265.1 = 0 then (if (x255000 == x242000 && (x255001 == x242001 && (x255002.toList == x242002.toList))) = true then ((value_Same.f x242000 x242001 x242002 x255000 x255001 x255002).bind fun t268 => (some t268)) else (some false)) else (some false))))
end
def lodestonelaw23_ValuePuts.f (k : Nat) (a0_0 : Int) (a0_1 : Int) (a0_2 : ByteArray) (a1 : Int) : Option (Bool) := (lodestonelaw23_Near.f k a0_0 a0_1 a0_2).bind fun bt238 => (if bt238.1 = 3 then (if 0 ≤ (Go.bits .and .i64 a1 2047) then (if (Go.bits .and .i64 a1 2047 : Int).toNat ≤ 281474976710656 then ((some (List.replicate (Go.bits .and .i64 a1 2047 : Int).toNat 0 : List Int)).bind fun y242 => (if bt238.2.2.size + (strOfNums y242).size ≤ 9223372036854775807 then (lodestonelaw23_ValuePuts.j0 k bt238.1 bt238.2.1 (bt238.2.2 ++ (strOfNums y242))) else (none))) else (none)) else (none)) else (lodestonelaw23_ValuePuts.j0 k bt238.1 bt238.2.1 bt238.2.2))
theorem lodestonelaw23_ValuePuts.mono_l : ∀ k, (∀ y0 y1 y2, LeO (lodestonelaw23_ValuePuts.j0 k y0 y1 y2) (lodestonelaw23_ValuePuts.j0 (k + 1) y0 y1 y2)) ∧ (∀ y0 y1 y2 y3 y4 y5 y6 y7 y8 y9, LeO (lodestonelaw23_ValuePuts.j1 k y0 y1 y2 y3 y4 y5 y6 y7 y8 y9) (lodestonelaw23_ValuePuts.j1 (k + 1) y0 y1 y2 y3 y4 y5 y6 y7 y8 y9))
  | 0 => ⟨fun _ _ _ r h => by simp [lodestonelaw23_ValuePuts.j0] at h, fun _ _ _ _ _ _ _ _ _ _ r h => by simp [lodestonelaw23_ValuePuts.j1] at h⟩
  | k + 1 => by
    obtain ⟨ih0, ih1⟩ := lodestonelaw23_ValuePuts.mono_l k
    refine ⟨?_, ?_⟩
    · intro y0 y1 y2
      unfold lodestonelaw23_ValuePuts.j0
      repeat' first
      | (with_reducible exact ih0 _ _ _)
      | (with_reducible exact ih1 _ _ _ _ _ _ _ _ _ _)
      | (with_reducible exact lodestonelaw23_Near.mono _ _ _ _)
      | (with_reducible exact lodestonelaw23_awake.mono _)
      | (with_reducible exact lodestoneref23_Put.mono _ _ _ _)
      | (with_reducible exact value_Put.mono _ _ _ _)
      | (with_reducible exact value_Take.mono _ _ _)
      | (with_reducible exact LeO.refl _)
      | (with_reducible exact LeO.none _)
      | (with_reducible refine LeO.ite ?_ ?_)
      | (with_reducible refine LeO.bind ?_ (fun _ => ?_))
      | exact ih0 _ _ _
      | exact ih1 _ _ _ _ _ _ _ _ _ _
      | exact lodestonelaw23_Near.mono _ _ _ _
      | exact lodestonelaw23_awake.mono _
      | exact lodestoneref23_Put.mono _ _ _ _
      | exact value_Put.mono _ _ _ _
      | exact value_Take.mono _ _ _
      | exact LeO.none _
      | refine LeO.ite ?_ ?_
      | refine LeO.bind ?_ (fun _ => ?_)
    · intro y0 y1 y2 y3 y4 y5 y6 y7 y8 y9
      unfold lodestonelaw23_ValuePuts.j1
      repeat' first
      | (with_reducible exact ih0 _ _ _)
      | (with_reducible exact ih1 _ _ _ _ _ _ _ _ _ _)
      | (with_reducible exact lodestonelaw23_Near.mono _ _ _ _)
      | (with_reducible exact lodestonelaw23_awake.mono _)
      | (with_reducible exact lodestoneref23_Put.mono _ _ _ _)
      | (with_reducible exact value_Put.mono _ _ _ _)
      | (with_reducible exact value_Take.mono _ _ _)
      | (with_reducible exact LeO.refl _)
      | (with_reducible exact LeO.none _)
      | (with_reducible refine LeO.ite ?_ ?_)
      | (with_reducible refine LeO.bind ?_ (fun _ => ?_))
      | exact ih0 _ _ _
      | exact ih1 _ _ _ _ _ _ _ _ _ _
      | exact lodestonelaw23_Near.mono _ _ _ _
      | exact lodestonelaw23_awake.mono _
      | exact lodestoneref23_Put.mono _ _ _ _
      | exact value_Put.mono _ _ _ _
      | exact value_Take.mono _ _ _
      | exact LeO.none _
      | refine LeO.ite ?_ ?_
      | refine LeO.bind ?_ (fun _ => ?_)
theorem lodestonelaw23_ValuePuts.mono : ∀ a0 a1 a2 a3 k, LeO (lodestonelaw23_ValuePuts.f k a0 a1 a2 a3) (lodestonelaw23_ValuePuts.f (k + 1) a0 a1 a2 a3) := by
  intro a0 a1 a2 a3 k
  obtain ⟨ih0, ih1⟩ := lodestonelaw23_ValuePuts.mono_l k
  unfold lodestonelaw23_ValuePuts.f
  repeat' first
      | (with_reducible exact ih0 _ _ _)
      | (with_reducible exact ih1 _ _ _ _ _ _ _ _ _ _)
      | (with_reducible exact lodestonelaw23_Near.mono _ _ _ _)
      | (with_reducible exact lodestonelaw23_awake.mono _)
      | (with_reducible exact lodestoneref23_Put.mono _ _ _ _)
      | (with_reducible exact value_Put.mono _ _ _ _)
      | (with_reducible exact value_Take.mono _ _ _)
      | (with_reducible exact LeO.refl _)
      | (with_reducible exact LeO.none _)
      | (with_reducible refine LeO.ite ?_ ?_)
      | (with_reducible refine LeO.bind ?_ (fun _ => ?_))
      | exact ih0 _ _ _
      | exact ih1 _ _ _ _ _ _ _ _ _ _
      | exact lodestonelaw23_Near.mono _ _ _ _
      | exact lodestonelaw23_awake.mono _
      | exact lodestoneref23_Put.mono _ _ _ _
      | exact value_Put.mono _ _ _ _
      | exact value_Take.mono _ _ _
      | exact LeO.none _
      | refine LeO.ite ?_ ?_
      | refine LeO.bind ?_ (fun _ => ?_)
def lodestonelaw23_ValuePuts.T3 : Bool × List (List Nat × List Nat) := (true, [([], []), ([0], [0]), ([], []), ([2], [2]), ([3, 3], [3]), ([4], [4]), ([1, 5], [1, 5]), ([0, 1, 2, 3, 4, 5, 6], []), ([7, 6, 0, 1, 2, 3, 4, 5, 6], [6, 7])])
def lodestonelaw23_ValuePuts.B3 : List Nat := [0, 1, 0, 4, 12, 28, 63, 127, 255]
theorem lodestonelaw23_ValuePuts.tab3 : rtab .any (opsOf Try.f4 3) = lodestonelaw23_ValuePuts.T3 := by kernel_rfl
theorem lodestonelaw23_ValuePuts.bits3 : waitsOk lodestonelaw23_ValuePuts.T3.2 lodestonelaw23_ValuePuts.B3 = true := by kernel_rfl
def lodestonelaw23_ValuePuts.T7 : Bool × List (List Nat × List Nat) := (true, [([], []), ([0], [0]), ([1, 0], [1]), ([2], [2]), ([2], [2]), ([4, 2, 2], [2, 4]), ([3, 5, 2], [2, 3, 5]), ([2, 6], [2, 6]), ([7, 5], [7]), ([8], [8]), ([9, 8, 8], [8, 9]), ([8], [8]), ([11, 10, 8], [8, 11]), ([10, 12, 8], [8, 10, 12]), ([8, 13], [8, 13]), ([14, 12], [14]), ([15], [15]), ([16, 15, 15], [15, 16]), ([15], [15]), ([18, 17, 15], [15, 18]), ([17, 19, 15], [15, 17, 19]), ([15, 20], [15, 20])])
def lodestonelaw23_ValuePuts.B7 : List Nat := [0, 1, 3, 7, 7, 23, 63, 127, 255, 511, 1023, 511, 4095, 8191, 16383, 32767, 65535, 131071, 65535, 524287, 1048575, 2097151]
theorem lodestonelaw23_ValuePuts.tab7 : rtab .any (opsOf Try.f4 7) = lodestonelaw23_ValuePuts.T7 := by kernel_rfl
theorem lodestonelaw23_ValuePuts.bits7 : waitsOk lodestonelaw23_ValuePuts.T7.2 lodestonelaw23_ValuePuts.B7 = true := by kernel_rfl
set_option maxHeartbeats 8000000 in
set_option maxRecDepth 100000 in
theorem lodestonelaw23_ValuePuts.calls (k : Nat) (a0_0 : Int) (a0_1 : Int) (a0_2 : ByteArray) (a1 : Int) (r : Bool) (w : World) (h : lodestonelaw23_ValuePuts.f k a0_0 a0_1 a0_2 a1 = some r) (hr : r = true) :
    Calls Try.prog 4 #[.agg #[.int .i64 a0_0, .int .i64 a0_1, .string a0_2], .int .i64 a1] w fun e w' => e = .returned (.bool r) ∧ Below w.heap.size w w' := by
  have HR_ := Aside0.mk hr
  clear hr
  have hu23 := Try.underlying23
  have HB := Aside0.mk (Below.refl w.heap.size w)
  have H : ((lodestonelaw23_Near.f k a0_0 a0_1 a0_2).bind fun bt238 => (if bt238.1 = 3 then (if 0 ≤ (Go.bits .and .i64 a1 2047) then (if (Go.bits .and .i64 a1 2047 : Int).toNat ≤ 281474976710656 then ((some (List.replicate (Go.bits .and .i64 a1 2047 : Int).toNat 0 : List Int)).bind fun y242 => (if bt238.2.2.size + (strOfNums y242).size ≤ 9223372036854775807 then (lodestonelaw23_ValuePuts.j0 k bt238.1 bt238.2.1 (bt238.2.2 ++ (strOfNums y242))) else (none))) else (none)) else (none)) else (lodestonelaw23_ValuePuts.j0 k bt238.1 bt238.2.1 bt238.2.2))) = some r := h
  clear h
  replace H := Option.bind_eq_some_iff.mp H
  obtain ⟨⟨t238, t239, t240⟩, A30, H⟩ := H
  replace H : (if t238 = 3 then (if 0 ≤ (Go.bits .and .i64 a1 2047) then (if (Go.bits .and .i64 a1 2047 : Int).toNat ≤ 281474976710656 then ((some (List.replicate (Go.bits .and .i64 a1 2047 : Int).toNat 0 : List Int)).bind fun y242 => (if t240.size + (strOfNums y242).size ≤ 9223372036854775807 then (lodestonelaw23_ValuePuts.j0 k t238 t239 (t240 ++ (strOfNums y242))) else (none))) else (none)) else (none)) else (lodestonelaw23_ValuePuts.j0 k t238 t239 t240)) = some r := H
  have A3 := Aside0.mk A30
  clear A30
  have HC4 := Aside0.mk H
  clear H
  go_enter Try.func4, Try.ntmps4
  go_upto_if 13 with (first | ((with_reducible refine gate_dst (N := 2) rfl ?_); refine box_event ?hg (N := 2) ?hd (cs := #[.int .i64 a0_0, .int .i64 a0_1, .string a0_2]) (t := 23) ?hr ?_; (case hd => rfl); (case hg => rfl); (case hr => first | (go_simp; done) | (go_simp; rfl)); intro gb237 hg w5 hbox hb; have n0_ := Aside0.mk (below_step (by repeat (first | (with_reducible first | exact HB.out | apply below_alloc | apply pw_below_drewN | apply below_drew1) | exact HB.out)) hb); have n1_ := Aside0.mk (hbox); have n2_ := Aside0.mk ((by rw [hg]; exact (below_size (by repeat (first | (with_reducible first | exact HB.out | apply below_alloc | apply pw_below_drewN | apply below_drew1) | exact HB.out))) : w.heap.size ≤ gb237)); have n3_ := Aside0.mk ((by rw [hg]; exact (below_size (by repeat (first | (with_reducible first | exact HB.out | apply below_alloc | apply pw_below_drewN | apply below_drew1) | exact HB.out))) : w.heap.size ≤ gb237)); clear HB; have HB := n0_; have BK237 := n1_; have GW237 := n2_; have GE237 := n3_; clear n0_ n1_ n2_ n3_; clear hb hbox hg; have hcz6_0 : w5.cell? ⟨gb237, 0, none⟩ = some (.int .i64 a0_0) := (blk_cell BK237.out 0).trans rfl; have hcz6_1 : w5.cell? ⟨gb237, 1, none⟩ = some (.int .i64 a0_1) := (blk_cell BK237.out 1).trans rfl; have hcz6_2 : w5.cell? ⟨gb237, 2, none⟩ = some (.string a0_2) := (blk_cell BK237.out 2).trans rfl; have hfz6_0 := blk_frozen BK237.out 0; have hfz6_1 := blk_frozen BK237.out 1; have hfz6_2 := blk_frozen BK237.out 2) | ((with_reducible refine gate_callee (f := 11) rfl ?_); refine goesL_ (some 10) rfl rfl Try.func11 (by kernel_rfl) rfl #[.agg #[.int .i64 a0_0, .int .i64 a0_1, .string a0_2]] rfl (by (try simp only [List.map_toArray, List.map_cons, List.map_nil]); first | done | rfl | (simp only [List.length_drop, List.length_take]; rfl)) ?_; (with_reducible refine (lodestonelaw23_Near.calls k a0_0 a0_1 a0_2 t238 t239 t240 _ A3.out).mono ?_); rintro e w7 ⟨rfl, hb⟩; refine ⟨_, rfl, ?_⟩; have n0_ := Aside0.mk (blk_below (g := gb237) (o := .cells #[.int .i64 a0_0, .int .i64 a0_1, .string a0_2] 23 (0, 0)) (by (with_reducible repeat (first | refine blk_drewN ?_ _ | refine blk_drew ?_ | refine blk_alloc ?_ _)); exact BK237.out) hb); have n1_ := Aside0.mk (below_step (by repeat (first | (with_reducible first | exact HB.out | apply below_alloc | apply pw_below_drewN | apply below_drew1 | refine below_set ?_ GE237.out) | exact HB.out)) hb); clear BK237; clear HB; have BK237 := n0_; have HB := n1_; clear n0_ n1_; (try clear hb); (try clear hb2); (try clear hk); (try clear hi)) | ((with_reducible refine gate_dst (N := 5) rfl ?_); refine box_event ?hg (N := 5) ?hd (cs := #[.int .i64 0, .int .i64 0, .string (⟨#[]⟩ : ByteArray)]) (t := 23) ?hr ?_; (case hd => rfl); (case hg => rfl); (case hr => first | (go_simp; done) | (go_simp; rfl)); intro gb241 hg w8 hbox hb; have n0_ := Aside0.mk (blk_below (g := gb237) (o := .cells #[.int .i64 a0_0, .int .i64 a0_1, .string a0_2] 23 (0, 0)) (by (with_reducible repeat (first | refine blk_drewN ?_ _ | refine blk_drew ?_ | refine blk_alloc ?_ _)); exact BK237.out) hb); have n1_ := Aside0.mk (below_step (by repeat (first | (with_reducible first | exact HB.out | apply below_alloc | apply pw_below_drewN | apply below_drew1 | refine below_set ?_ GE237.out) | exact HB.out)) hb); have n2_ := Aside0.mk (hbox); have n3_ := Aside0.mk ((by rw [hg]; exact (below_size (by repeat (first | (with_reducible first | exact HB.out | apply below_alloc | apply pw_below_drewN | apply below_drew1 | refine below_set ?_ GE237.out) | exact HB.out))) : w.heap.size ≤ gb241)); have n4_ := Aside0.mk ((by rw [hg]; exact (below_size (by repeat (first | (with_reducible first | exact HB.out | apply below_alloc | apply pw_below_drewN | apply below_drew1 | refine below_set ?_ GE237.out) | exact HB.out))) : w.heap.size ≤ gb241)); have n5_ := Aside0.mk ((by rw [hg]; exact Nat.ne_of_lt (blk_lt (g := gb237) (o := .cells #[.int .i64 a0_0, .int .i64 a0_1, .string a0_2] 23 (0, 0)) (by (with_reducible repeat (first | refine blk_drewN ?_ _ | refine blk_drew ?_ | refine blk_alloc ?_ _)); exact BK237.out)) : gb237 ≠ gb241)); have n6_ := Aside0.mk ((by rw [hg]; exact Nat.ne_of_gt (blk_lt (g := gb237) (o := .cells #[.int .i64 a0_0, .int .i64 a0_1, .string a0_2] 23 (0, 0)) (by (with_reducible repeat (first | refine blk_drewN ?_ _ | refine blk_drew ?_ | refine blk_alloc ?_ _)); exact BK237.out)) : gb241 ≠ gb237)); clear BK237; clear HB; have BK237 := n0_; have HB := n1_; have BK241 := n2_; have GW241 := n3_; have GE241 := n4_; have NB237_241 := n5_; have NB241_237 := n6_; clear n0_ n1_ n2_ n3_ n4_ n5_ n6_; clear hb hbox hg; have hnb9 := NB241_237.out; have hnc9 := NB237_241.out; have hcz10_0 : w8.cell? ⟨gb241, 0, none⟩ = some (.int .i64 0) := (blk_cell BK241.out 0).trans rfl; have hcz10_1 : w8.cell? ⟨gb241, 1, none⟩ = some (.int .i64 0) := (blk_cell BK241.out 1).trans rfl; have hcz10_2 : w8.cell? ⟨gb241, 2, none⟩ = some (.string (⟨#[]⟩ : ByteArray)) := (blk_cell BK241.out 2).trans rfl; have hfz10_0 := blk_frozen BK241.out 0; have hfz10_1 := blk_frozen BK241.out 1; have hfz10_2 := blk_frozen BK241.out 2))
  (try simp only [Act.put, List.setIfInBounds_toArray, List.set_cons_zero, List.set_cons_succ])
  go_cut [] (fun wc => ∃ (kq : Nat) (x242002_3 : ByteArray), Aside0 (lodestonelaw23_ValuePuts.j0 kq t238 t239 x242002_3 = some r) ∧ Aside0 (kq ≤ k) ∧ Aside0 (wc.heap[gb237]? = some (.cells #[.int .i64 a0_0, .int .i64 a0_1, .string a0_2] 23 (0, 0))) ∧ Aside0 (wc.heap[gb241]? = some (.cells #[.int .i64 t238, .int .i64 t239, .string x242002_3] 23 (0, 0))) ∧ Aside0 (Below w.heap.size w wc))
  case first =>
    have H := HC4.out
    clear HC4
    by_cases c11 : t238 = 3
    · rw [if_pos c11] at H
      have c11b0 : (t238 == 3) = true := beq_iff_eq.mpr c11
      have c11b1 : (t238 != 3) = false := bne_eq_false_iff_eq.mpr c11
      clear c11
      (first | rw [c11b0] | (simp only [i64_w, i32_w]; rw [c11b0]) | skip)
      by_cases c12 : 0 ≤ (Go.bits .and .i64 a1 2047)
      · rw [if_pos c12] at H
        have c12b0 := eq_true c12
        have c12b1 : decide (0 ≤ (Go.bits .and .i64 a1 2047)) = true := decide_eq_true c12
        clear c12
        by_cases c13 : (Go.bits .and .i64 a1 2047 : Int).toNat ≤ 281474976710656
        · rw [if_pos c13] at H
          have c13b0 := eq_true c13
          have c13b1 : decide ((Go.bits .and .i64 a1 2047 : Int).toNat ≤ 281474976710656) = true := decide_eq_true c13
          clear c13
          obtain ⟨y242, hy242⟩ : ∃ y_ : List Int, y_ = (List.replicate (Go.bits .and .i64 a1 2047 : Int).toNat 0) := ⟨_, rfl⟩
          replace H : (if t240.size + (strOfNums y242).size ≤ 9223372036854775807 then (lodestonelaw23_ValuePuts.j0 k t238 t239 (t240 ++ (strOfNums y242))) else (none)) = some r := by first | (rw [hy242]; with_reducible exact H) | (have H2_ := (Option.bind_some _ _).symm.trans H; rw [hy242]; with_reducible exact H2_) | (have H2_ := (Option.bind_some _ _).symm.trans H; with_reducible exact H2_) | with_reducible exact H | (rw [hy242]; exact H) | exact H
          have Ny242 := Aside0.mk hy242
          clear hy242
          by_cases c14 : t240.size + (strOfNums y242).size ≤ 9223372036854775807
          · rw [if_pos c14] at H
            have c14b0 := eq_true c14
            have c14b1 : decide (t240.size + (strOfNums y242).size ≤ 9223372036854775807) = true := decide_eq_true c14
            try have c14b2 : (9223372036854775807 < t240.size + (strOfNums y242).size) = False := eq_false (Nat.not_lt.2 c14)
            have H' := Aside0.mk H
            clear H
            try go_wp2
            have n0_ : Aside0 ((((w8.setCell ⟨gb241, 0, none⟩ (.int .i64 t238)).setCell ⟨gb241, 1, none⟩ (.int .i64 t239)).setCell ⟨gb241, 2, none⟩ (.string t240)).heap[gb237]? = some (.cells #[.int .i64 a0_0, .int .i64 a0_1, .string a0_2] 23 (0, 0))) := ⟨by (with_reducible repeat (first | refine blk_drewN ?_ _ | refine blk_drew ?_ | refine blk_alloc ?_ _)); refine blk_far ?_ NB237_241.out _; (with_reducible repeat (first | refine blk_drewN ?_ _ | refine blk_drew ?_ | refine blk_alloc ?_ _)); refine blk_far ?_ NB237_241.out _; (with_reducible repeat (first | refine blk_drewN ?_ _ | refine blk_drew ?_ | refine blk_alloc ?_ _)); refine blk_far ?_ NB237_241.out _; (with_reducible repeat (first | refine blk_drewN ?_ _ | refine blk_drew ?_ | refine blk_alloc ?_ _)); exact BK237.out⟩
            have n1_ : Aside0 ((((w8.setCell ⟨gb241, 0, none⟩ (.int .i64 t238)).setCell ⟨gb241, 1, none⟩ (.int .i64 t239)).setCell ⟨gb241, 2, none⟩ (.string t240)).heap[gb241]? = some (.cells #[.int .i64 t238, .int .i64 t239, .string t240] 23 (0, 0))) := ⟨by (with_reducible repeat (first | refine blk_drewN ?_ _ | refine blk_drew ?_ | refine blk_alloc ?_ _)); refine blk_put (cs := #[.int .i64 t238, .int .i64 t239, .string (⟨#[]⟩ : ByteArray)]) ?_ 2 _ rfl; (with_reducible repeat (first | refine blk_drewN ?_ _ | refine blk_drew ?_ | refine blk_alloc ?_ _)); refine blk_put (cs := #[.int .i64 t238, .int .i64 0, .string (⟨#[]⟩ : ByteArray)]) ?_ 1 _ rfl; (with_reducible repeat (first | refine blk_drewN ?_ _ | refine blk_drew ?_ | refine blk_alloc ?_ _)); refine blk_put (cs := #[.int .i64 0, .int .i64 0, .string (⟨#[]⟩ : ByteArray)]) ?_ 0 _ rfl; (with_reducible repeat (first | refine blk_drewN ?_ _ | refine blk_drew ?_ | refine blk_alloc ?_ _)); exact BK241.out⟩
            have n2_ : Aside0 (Below w.heap.size w (((w8.setCell ⟨gb241, 0, none⟩ (.int .i64 t238)).setCell ⟨gb241, 1, none⟩ (.int .i64 t239)).setCell ⟨gb241, 2, none⟩ (.string t240))) := ⟨by repeat (first | (with_reducible first | exact HB.out | apply below_alloc | apply pw_below_drewN | apply below_drew1 | refine below_set ?_ GE237.out | refine below_set ?_ GE241.out) | exact HB.out)⟩
            (try clear BK237)
            (try clear BK241)
            (try clear HB)
            generalize (((w8.setCell ⟨gb241, 0, none⟩ (.int .i64 t238)).setCell ⟨gb241, 1, none⟩ (.int .i64 t239)).setCell ⟨gb241, 2, none⟩ (.string t240)) = w15 at n0_ n1_ n2_ ⊢
            have BK237 := n0_
            have BK241 := n1_
            have HB := n2_
            clear n0_ n1_ n2_
            have n0_ := Aside0.mk (blk_drew BK237.out)
            have n1_ := Aside0.mk (blk_drew BK241.out)
            have n2_ := Aside0.mk (below_drew1 HB.out)
            clear BK237
            clear BK241
            clear HB
            have BK237 := n0_
            have BK241 := n1_
            have HB := n2_
            clear n0_ n1_ n2_
            refine start_ (n := 9) (S := fun w' => w'.cell? ⟨gb241, 0, none⟩ = some (.int .i64 t238) ∧ w'.cell? ⟨gb241, 1, none⟩ = some (.int .i64 t239) ∧ w'.cell? ⟨gb241, 2, none⟩ = some (.string t240)) (ds := [8]) #[false, false, false, false, false, false, false, false, false] (by kernel_rfl) rfl rfl ⟨(blk_cell BK241.out 0).trans rfl, (blk_cell BK241.out 1).trans rfl, (blk_cell BK241.out 2).trans rfl⟩ (fun hHeld => ?_); refine with_tabW lodestonelaw23_ValuePuts.tab3 lodestonelaw23_ValuePuts.bits3 (fun HT_ HW_ => ?_)
            generalize w15.drew = w16 at BK237 BK241 HB hHeld ⊢
            refine pure_ (i := 0) (N := some 14) (v := ?_) (a' := ?_) #[true, false, false, false, false, false, false, false, false] rfl rfl (any_of HT_.out (by kernel_rfl)) (fun _ _ _ h => h) (Or.inl ⟨by rfl, ?_⟩) ?_ ?_
            rotate_left
            · intro w'
              go_simp
              with_reducible rfl
            rotate_left
            · simp only [Act.put, List.setIfInBounds_toArray, List.set_cons_zero, List.set_cons_succ, i64_w, i32_w]
              rfl
            refine pure_ (i := 2) (N := some 16) (v := ?_) (a' := ?_) #[true, false, true, false, false, false, false, false, false] rfl rfl (any_of HT_.out (by kernel_rfl)) (fun _ _ _ h => h) (Or.inl ⟨by rfl, ?_⟩) ?_ ?_
            rotate_left
            · intro w'
              go_simp
              with_reducible rfl
            rotate_left
            · simp only [Act.put, List.setIfInBounds_toArray, List.set_cons_zero, List.set_cons_succ, i64_w, i32_w]
              rfl
            refine pure_ (i := 3) (N := some 17) (v := ?_) (a' := ?_) #[true, false, true, true, false, false, false, false, false] rfl rfl (any_of HT_.out (by kernel_rfl)) (fun _ _ _ h => h) (Or.inl ⟨by rfl, ?_⟩) ?_ ?_
            rotate_left
            · intro w'
              go_simp
              with_reducible rfl
            rotate_left
            · simp only [Act.put, List.setIfInBounds_toArray, List.set_cons_zero, List.set_cons_succ, i64_w, i32_w]
              rfl
            refine take_ (i := 1) (N := some 15) (v := ?_) (a' := ?_) #[true, true, true, true, false, false, false, false, false] rfl rfl (take_ofW HT_.out HW_.out (by kernel_rfl)) (fun _ _ _ h => h) (Or.inl ⟨by rfl, ?_⟩) hHeld ?_ ?_
            rotate_left
            · rintro w' ⟨s0, s1, s2⟩
              go_simp
              with_reducible rfl
            rotate_left
            · simp only [Act.put, List.setIfInBounds_toArray, List.set_cons_zero, List.set_cons_succ, i64_w, i32_w]
              rfl
            refine one_ (i := 4) (N := some 18) #[true, true, true, true, true, false, false, false, false] rfl rfl (one_of HT_.out (by kernel_rfl)) (by decide) (fun K hK => ?_)
            refine Kd.R_make_step (Kd.int .u8) _ 5 (by rfl) (N := 18) rfl 31 _ _ rfl (Go.bits .and .i64 a1 2047) rfl rfl Try.underlying31 (.int .u8 0) 1 info5 rfl (by decide) (by omega) 0 (ok := fun _ => True) (okp := fun _ => True) rfl (fun _ hk => hk) trivial (of_decide_eq_true (by first | (with_reducible assumption) | assumption)) (Nat.le_trans (Nat.mul_le_mul_right _ (of_decide_eq_true (by first | (with_reducible assumption) | assumption) : (Go.bits .and .i64 a1 2047).toNat ≤ 281474976710656)) (by omega)) (Below.refl _ _) (Nat.le_refl _) ?_
            intro v243 w17 ho18 hb hg_ hnew_
            clear hg_ hnew_
            (first | rw [← Ny242.out] at ho18 | (simp only [Int.reduceToNat] at ho18; rw [← Ny242.out] at ho18))
            have n0_ := Aside0.mk (Kd.R_lower ho18 (below_size (by repeat (first | (with_reducible first | exact HB.out | apply below_alloc | apply pw_below_drewN | apply below_drew1 | refine below_set ?_ GE237.out | refine below_set ?_ GE241.out) | exact HB.out))))
            have n1_ := Aside0.mk (blk_below (g := gb237) (o := .cells #[.int .i64 a0_0, .int .i64 a0_1, .string a0_2] 23 (0, 0)) (by (with_reducible repeat (first | refine blk_drewN ?_ _ | refine blk_drew ?_ | refine blk_alloc ?_ _)); exact BK237.out) hb)
            have n2_ := Aside0.mk (blk_below (g := gb241) (o := .cells #[.int .i64 t238, .int .i64 t239, .string t240] 23 (0, 0)) (by (with_reducible repeat (first | refine blk_drewN ?_ _ | refine blk_drew ?_ | refine blk_alloc ?_ _)); exact BK241.out) hb)
            have n3_ := Aside0.mk (below_step (by repeat (first | (with_reducible first | exact HB.out | apply below_alloc | apply pw_below_drewN | apply below_drew1 | refine below_set ?_ GE237.out | refine below_set ?_ GE241.out) | exact HB.out)) hb)
            clear BK237
            clear BK241
            clear HB
            have HO244 := n0_
            have BK237 := n1_
            have BK241 := n2_
            have HB := n3_
            clear n0_ n1_ n2_ n3_
            clear hb ho18
            refine hK.out _ _ ⟨(blk_cell BK241.out 0).trans rfl, (blk_cell BK241.out 1).trans rfl, (blk_cell BK241.out 2).trans rfl⟩ (fun hHeld => ?_)
            clear hK K
            refine norm_ (a' := ?_) ?_ ?_
            rotate_left
            · show Act.put _ (some 18) _ = _
              simp only [Act.put, List.setIfInBounds_toArray, List.set_cons_zero, List.set_cons_succ, i64_w, i32_w]
              rfl
            refine one_ (i := 5) (N := some 19) #[true, true, true, true, true, true, false, false, false] rfl rfl (one_of HT_.out (by kernel_rfl)) (by decide) (fun K hK => ?_)
            have hcv19 := own_string (P := Try.prog) Try.underlying31 Try.underlying5 Try.underlying9 (Kd.own_of_R HO244.out)
            refine value_ (w1 := ?_) (v := ?_) (by rfl) rfl ?_ ?_
            rotate_left 2
            · go_simp
              constructor
              · rfl
              · rfl
            clear hcv19
            refine hK.out _ _ ⟨(blk_cell BK241.out 0).trans rfl, (blk_cell BK241.out 1).trans rfl, (blk_cell BK241.out 2).trans rfl⟩ (fun hHeld => ?_)
            clear hK K
            refine norm_ (a' := ?_) ?_ ?_
            rotate_left
            · show Act.put _ (some 19) _ = _
              simp only [Act.put, List.setIfInBounds_toArray, List.set_cons_zero, List.set_cons_succ, i64_w, i32_w]
              rfl
            refine pure_ (i := 6) (N := some 20) (v := ?_) (a' := ?_) #[true, true, true, true, true, true, true, false, false] rfl rfl (any_of HT_.out (by kernel_rfl)) (fun _ _ _ h => h) (Or.inl ⟨by rfl, ?_⟩) ?_ ?_
            rotate_left
            · intro w'
              go_simp
              with_reducible rfl
            rotate_left
            · simp only [Act.put, List.setIfInBounds_toArray, List.set_cons_zero, List.set_cons_succ, i64_w, i32_w]
              rfl
            refine pure_ (i := 7) (N := some 21) (v := ?_) (a' := ?_) #[true, true, true, true, true, true, true, true, false] rfl rfl (any_of HT_.out (by kernel_rfl)) (fun _ _ _ h => h) (Or.inl ⟨by rfl, ?_⟩) ?_ ?_
            rotate_left
            · intro w'
              go_simp
              with_reducible rfl
            rotate_left
            · simp only [Act.put, List.setIfInBounds_toArray, List.set_cons_zero, List.set_cons_succ, i64_w, i32_w]
              rfl
            refine last_ (i := 8) (N := none) #[true, true, true, true, true, true, true, true, true] rfl rfl (one_of HT_.out (by kernel_rfl)) (by decide) (fun K hK => ?_)
            have hs20 : w17.cell? ⟨gb241, 2, none⟩ = some (.string t240) := (blk_cell BK241.out 2).trans rfl
            have hfs20 := blk_frozen BK241.out 2
            have hns20_0 := NB237_241.out
            have hms20_0 := NB241_237.out
            refine skip_ (w1 := ?_) (by rfl) rfl ?_ ?_
            rotate_left
            · go_simp
              rfl
            refine hK.out _ _ ?_
            clear hK K
            refine done_ (done_of HT_.out (by kernel_rfl)) ?_
            try go_wp2
            go_meet
            case rel => exact ⟨_, (t240 ++ (strOfNums y242)), H', ⟨by first | omega | exact Nat.le_refl _⟩, ⟨by (with_reducible repeat (first | refine blk_drewN ?_ _ | refine blk_drew ?_ | refine blk_alloc ?_ _)); refine blk_far ?_ NB237_241.out _; (with_reducible repeat (first | refine blk_drewN ?_ _ | refine blk_drew ?_ | refine blk_alloc ?_ _)); exact BK237.out⟩, ⟨by (with_reducible repeat (first | refine blk_drewN ?_ _ | refine blk_drew ?_ | refine blk_alloc ?_ _)); refine blk_put (cs := #[.int .i64 t238, .int .i64 t239, .string t240]) ?_ 2 _ rfl; (with_reducible repeat (first | refine blk_drewN ?_ _ | refine blk_drew ?_ | refine blk_alloc ?_ _)); exact BK241.out⟩, ⟨by repeat (first | (with_reducible first | exact HB.out | apply below_alloc | apply pw_below_drewN | apply below_drew1 | refine below_set ?_ GE237.out | refine below_set ?_ GE241.out) | exact HB.out)⟩⟩
          · rw [if_neg c14] at H
            exact absurd H (by simp)
        · rw [if_neg c13] at H
          exact absurd H (by simp)
      · rw [if_neg c12] at H
        exact absurd H (by simp)
    · rw [if_neg c11] at H
      have c11b0 : (t238 == 3) = false := beq_eq_false_iff_ne.mpr c11
      have c11b1 : (t238 != 3) = true := bne_iff_ne.mpr c11
      (first | rw [c11b0] | (simp only [i64_w, i32_w]; rw [c11b0]) | skip)
      have H' := Aside0.mk H
      clear H
      go_wp2
      go_meet
      case rel => exact ⟨_, (t240), H', ⟨by first | omega | exact Nat.le_refl _⟩, ⟨by (with_reducible repeat (first | refine blk_drewN ?_ _ | refine blk_drew ?_ | refine blk_alloc ?_ _)); refine blk_far ?_ NB237_241.out _; (with_reducible repeat (first | refine blk_drewN ?_ _ | refine blk_drew ?_ | refine blk_alloc ?_ _)); refine blk_far ?_ NB237_241.out _; (with_reducible repeat (first | refine blk_drewN ?_ _ | refine blk_drew ?_ | refine blk_alloc ?_ _)); refine blk_far ?_ NB237_241.out _; (with_reducible repeat (first | refine blk_drewN ?_ _ | refine blk_drew ?_ | refine blk_alloc ?_ _)); exact BK237.out⟩, ⟨by (with_reducible repeat (first | refine blk_drewN ?_ _ | refine blk_drew ?_ | refine blk_alloc ?_ _)); refine blk_put (cs := #[.int .i64 t238, .int .i64 t239, .string (⟨#[]⟩ : ByteArray)]) ?_ 2 _ rfl; (with_reducible repeat (first | refine blk_drewN ?_ _ | refine blk_drew ?_ | refine blk_alloc ?_ _)); refine blk_put (cs := #[.int .i64 t238, .int .i64 0, .string (⟨#[]⟩ : ByteArray)]) ?_ 1 _ rfl; (with_reducible repeat (first | refine blk_drewN ?_ _ | refine blk_drew ?_ | refine blk_alloc ?_ _)); refine blk_put (cs := #[.int .i64 0, .int .i64 0, .string (⟨#[]⟩ : ByteArray)]) ?_ 0 _ rfl; (with_reducible repeat (first | refine blk_drewN ?_ _ | refine blk_drew ?_ | refine blk_alloc ?_ _)); exact BK241.out⟩, ⟨by repeat (first | (with_reducible first | exact HB.out | apply below_alloc | apply pw_below_drewN | apply below_drew1 | refine below_set ?_ GE237.out | refine below_set ?_ GE241.out) | exact HB.out)⟩⟩
  case rest =>
    clear HC4
    try clear c1
    try clear hcv1
    try clear p2
    try clear c4
    try clear c9
    try clear c11
    try clear c11b0
    try clear c11b1
    try clear c12
    try clear c12b0
    try clear c12b1
    try clear c13
    try clear c13b0
    try clear c13b1
    try clear c14
    try clear c14b0
    try clear c14b1
    try clear c14b2
    try clear hcv19
    try clear hcz10_0
    try clear hcz10_1
    try clear hcz10_2
    try clear hcz6_0
    try clear hcz6_1
    try clear hcz6_2
    try clear hfz10_0
    try clear hfz10_1
    try clear hfz10_2
    try clear hfz6_0
    try clear hfz6_1
    try clear hfz6_2
    obtain ⟨kq, x242002_3, HA, HJ3, BK237, BK241, HB⟩ := hcut
    cases kq with
    | zero => exact absurd HA.out (by simp [lodestonelaw23_ValuePuts.j0])
    | succ kj3 =>
      have H := HA.out
      clear HA
      simp only [lodestonelaw23_ValuePuts.j0] at H
      replace H := Option.bind_eq_some_iff.mp H
      obtain ⟨t245, A210, H⟩ := H
      replace H : ((code_Read.f t245).bind fun bt246 => ((value_Take.f kj3 bt246.1 bt246.2).bind fun bt249 => ((lodestonelaw23_awake.f kj3).bind fun t255 => (if t255 = true then ((lodestoneref23_Put.f kj3 t238 t239 x242002_3).bind fun t256 => (if t245.toList = t256.toList then ((value_May.f t238 t239 x242002_3).bind fun t257 => ((lodestoneref23_May.f t238 t239 x242002_3).bind fun t258 => (if (t257 != t258) = true then (lodestonelaw23_ValuePuts.j1 kj3 t245 true t238 t239 x242002_3 bt249.2.2.2.1 bt249.2.2.2.2 bt249.1 bt249.2.1 bt249.2.2.1) else ((value_Words.f t238 t239 x242002_3).bind fun t259 => ((lodestoneref23_Words.f t238 t239 x242002_3).bind fun t260 => (lodestonelaw23_ValuePuts.j1 kj3 t245 (t259 != t260) t238 t239 x242002_3 bt249.2.2.2.1 bt249.2.2.2.2 bt249.1 bt249.2.1 bt249.2.2.1)))))) else (lodestonelaw23_ValuePuts.j1 kj3 t245 true t238 t239 x242002_3 bt249.2.2.2.1 bt249.2.2.2.2 bt249.1 bt249.2.1 bt249.2.2.1))) else (lodestonelaw23_ValuePuts.j1 kj3 t245 true t238 t239 x242002_3 bt249.2.2.2.1 bt249.2.2.2.2 bt249.1 bt249.2.1 bt249.2.2.1))))) = some r := H
      have A21 := Aside0.mk A210
      clear A210
      replace H := Option.bind_eq_some_iff.mp H
      obtain ⟨⟨t246, t247⟩, A220, H⟩ := H
      replace H : ((value_Take.f kj3 t246 t247).bind fun bt249 => ((lodestonelaw23_awake.f kj3).bind fun t255 => (if t255 = true then ((lodestoneref23_Put.f kj3 t238 t239 x242002_3).bind fun t256 => (if t245.toList = t256.toList then ((value_May.f t238 t239 x242002_3).bind fun t257 => ((lodestoneref23_May.f t238 t239 x242002_3).bind fun t258 => (if (t257 != t258) = true then (lodestonelaw23_ValuePuts.j1 kj3 t245 true t238 t239 x242002_3 bt249.2.2.2.1 bt249.2.2.2.2 bt249.1 bt249.2.1 bt249.2.2.1) else ((value_Words.f t238 t239 x242002_3).bind fun t259 => ((lodestoneref23_Words.f t238 t239 x242002_3).bind fun t260 => (lodestonelaw23_ValuePuts.j1 kj3 t245 (t259 != t260) t238 t239 x242002_3 bt249.2.2.2.1 bt249.2.2.2.2 bt249.1 bt249.2.1 bt249.2.2.1)))))) else (lodestonelaw23_ValuePuts.j1 kj3 t245 true t238 t239 x242002_3 bt249.2.2.2.1 bt249.2.2.2.2 bt249.1 bt249.2.1 bt249.2.2.1))) else (lodestonelaw23_ValuePuts.j1 kj3 t245 true t238 t239 x242002_3 bt249.2.2.2.1 bt249.2.2.2.2 bt249.1 bt249.2.1 bt249.2.2.1)))) = some r := H
      have A22 := Aside0.mk A220
      clear A220
      replace H := Option.bind_eq_some_iff.mp H
      obtain ⟨⟨t249, t250, t251, t252, t253⟩, A230, H⟩ := H
      replace H : ((lodestonelaw23_awake.f kj3).bind fun t255 => (if t255 = true then ((lodestoneref23_Put.f kj3 t238 t239 x242002_3).bind fun t256 => (if t245.toList = t256.toList then ((value_May.f t238 t239 x242002_3).bind fun t257 => ((lodestoneref23_May.f t238 t239 x242002_3).bind fun t258 => (if (t257 != t258) = true then (lodestonelaw23_ValuePuts.j1 kj3 t245 true t238 t239 x242002_3 t252 t253 t249 t250 t251) else ((value_Words.f t238 t239 x242002_3).bind fun t259 => ((lodestoneref23_Words.f t238 t239 x242002_3).bind fun t260 => (lodestonelaw23_ValuePuts.j1 kj3 t245 (t259 != t260) t238 t239 x242002_3 t252 t253 t249 t250 t251)))))) else (lodestonelaw23_ValuePuts.j1 kj3 t245 true t238 t239 x242002_3 t252 t253 t249 t250 t251))) else (lodestonelaw23_ValuePuts.j1 kj3 t245 true t238 t239 x242002_3 t252 t253 t249 t250 t251))) = some r := H
      have A23 := Aside0.mk A230
      clear A230
      have HC24 := Aside0.mk H
      clear H
      have hnb25 := NB241_237.out
      have hnc25 := NB237_241.out
      have hcz26_0 : wc.cell? ⟨gb241, 0, none⟩ = some (.int .i64 t238) := (blk_cell BK241.out 0).trans rfl
      have hcz26_1 : wc.cell? ⟨gb241, 1, none⟩ = some (.int .i64 t239) := (blk_cell BK241.out 1).trans rfl
      have hcz26_2 : wc.cell? ⟨gb241, 2, none⟩ = some (.string x242002_3) := (blk_cell BK241.out 2).trans rfl
      have hfz26_0 := blk_frozen BK241.out 0
      have hfz26_1 := blk_frozen BK241.out 1
      have hfz26_2 := blk_frozen BK241.out 2
      go_upto_region 7 with (first | ((with_reducible refine gate_callee (f := 12) rfl ?_); refine goesL_ (some 23) rfl rfl Try.func12 (by kernel_rfl) rfl #[.agg #[.int .i64 t238, .int .i64 t239, .string x242002_3]] rfl (by (try simp only [List.map_toArray, List.map_cons, List.map_nil]); first | done | rfl | (simp only [List.length_drop, List.length_take]; rfl)) ?_; (with_reducible refine (value_Put.calls kj3 t238 t239 x242002_3 t245 _ A21.out).mono ?_); rintro e w27 ⟨rfl, hb⟩; refine ⟨_, rfl, ?_⟩; have n0_ := Aside0.mk (blk_below (g := gb237) (o := .cells #[.int .i64 a0_0, .int .i64 a0_1, .string a0_2] 23 (0, 0)) (by (with_reducible repeat (first | refine blk_drewN ?_ _ | refine blk_drew ?_ | refine blk_alloc ?_ _)); exact BK237.out) hb); have n1_ := Aside0.mk (blk_below (g := gb241) (o := .cells #[.int .i64 t238, .int .i64 t239, .string x242002_3] 23 (0, 0)) (by (with_reducible repeat (first | refine blk_drewN ?_ _ | refine blk_drew ?_ | refine blk_alloc ?_ _)); exact BK241.out) hb); have n2_ := Aside0.mk (below_step (by repeat (first | (with_reducible first | exact HB.out | apply below_alloc | apply pw_below_drewN | apply below_drew1 | refine below_set ?_ GE237.out | refine below_set ?_ GE241.out) | exact HB.out)) hb); clear BK237; clear BK241; clear HB; have BK237 := n0_; have BK241 := n1_; have HB := n2_; clear n0_ n1_ n2_; (try clear hb); (try clear hb2); (try clear hk); (try clear hi)) | ((with_reducible refine gate_callee (f := 13) rfl ?_); refine goesL_ (some 25) rfl rfl Try.func13 (by kernel_rfl) rfl #[.string t245] rfl (by (try simp only [List.map_toArray, List.map_cons, List.map_nil]); first | done | rfl | (simp only [List.length_drop, List.length_take]; rfl)) ?_; (with_reducible refine (code_Read.calls t245 t246 t247 w _ ?side1 A22.out).mono ?_); (case side1 => repeat (first | (with_reducible first | exact HB.out | apply below_alloc | apply pw_below_drewN | apply below_drew1 | refine below_set ?_ GE237.out | refine below_set ?_ GE241.out) | exact HB.out)); rintro e w28 ⟨g248, rfl, hi, hb, hb2⟩; refine ⟨_, rfl, ?_⟩; have n0_ := Aside0.mk (blk_below (g := gb237) (o := .cells #[.int .i64 a0_0, .int .i64 a0_1, .string a0_2] 23 (0, 0)) (by (with_reducible repeat (first | refine blk_drewN ?_ _ | refine blk_drew ?_ | refine blk_alloc ?_ _)); exact BK237.out) hb2); have n1_ := Aside0.mk (blk_below (g := gb241) (o := .cells #[.int .i64 t238, .int .i64 t239, .string x242002_3] 23 (0, 0)) (by (with_reducible repeat (first | refine blk_drewN ?_ _ | refine blk_drew ?_ | refine blk_alloc ?_ _)); exact BK241.out) hb2); have n2_ := Aside0.mk (hb); have n3_ := Aside0.mk (hi); have n4_ := Aside0.mk (IsS46.ne_blk hi (blk_below (g := gb237) (o := .cells #[.int .i64 a0_0, .int .i64 a0_1, .string a0_2] 23 (0, 0)) (by (with_reducible repeat (first | refine blk_drewN ?_ _ | refine blk_drew ?_ | refine blk_alloc ?_ _)); exact BK237.out) hb2) (by decide)); have n5_ := Aside0.mk (Ne.symm (IsS46.ne_blk hi (blk_below (g := gb237) (o := .cells #[.int .i64 a0_0, .int .i64 a0_1, .string a0_2] 23 (0, 0)) (by (with_reducible repeat (first | refine blk_drewN ?_ _ | refine blk_drew ?_ | refine blk_alloc ?_ _)); exact BK237.out) hb2) (by decide))); have n6_ := Aside0.mk (IsS46.ne_blk hi (blk_below (g := gb241) (o := .cells #[.int .i64 t238, .int .i64 t239, .string x242002_3] 23 (0, 0)) (by (with_reducible repeat (first | refine blk_drewN ?_ _ | refine blk_drew ?_ | refine blk_alloc ?_ _)); exact BK241.out) hb2) (by decide)); have n7_ := Aside0.mk (Ne.symm (IsS46.ne_blk hi (blk_below (g := gb241) (o := .cells #[.int .i64 t238, .int .i64 t239, .string x242002_3] 23 (0, 0)) (by (with_reducible repeat (first | refine blk_drewN ?_ _ | refine blk_drew ?_ | refine blk_alloc ?_ _)); exact BK241.out) hb2) (by decide))); clear BK237; clear BK241; clear HB; have BK237 := n0_; have BK241 := n1_; have HB := n2_; have HI248 := n3_; have NB248_237 := n4_; have NB237_248 := n5_; have NB248_241 := n6_; have NB241_248 := n7_; clear n0_ n1_ n2_ n3_ n4_ n5_ n6_ n7_; (try clear hb); (try clear hb2); (try clear hk); (try clear hi)) | ((with_reducible refine gate_callee (f := 14) rfl ?_); refine goesL_ (some 27) rfl rfl Try.func14 (by kernel_rfl) rfl #[.pointer (some ⟨g248, 0, none⟩)] rfl (by (try simp only [List.map_toArray, List.map_cons, List.map_nil]); first | done | rfl | (simp only [List.length_drop, List.length_take]; rfl)) ?_; (with_reducible refine (value_Take.calls kj3 g248 t246 t247 t249 t250 t251 t252 t253 w _ ?side1 ?side2 A23.out).mono ?_); (case side1 => repeat (first | (with_reducible first | exact HI248.out | apply IsS46.alloc | apply IsS46.drewN | apply IsS46.drew | apply IsS46.set_0 | apply IsS46.set_1 | refine IsS46.far ?_ NB248_237.out _ | refine IsS46.far ?_ NB248_241.out _) | exact HI248.out)); (case side2 => repeat (first | (with_reducible first | exact HB.out | apply below_alloc | apply pw_below_drewN | apply below_drew1 | refine below_set ?_ (IsS46.ge HI248.out) | refine below_set ?_ GE237.out | refine below_set ?_ GE241.out) | exact HB.out)); rintro e w29 ⟨rfl, hi, hb, hk⟩; refine ⟨_, rfl, ?_⟩; have n0_ := Aside0.mk (KeepBut.blk hk (g' := gb237) (o := .cells #[.int .i64 a0_0, .int .i64 a0_1, .string a0_2] 23 (0, 0)) (by (with_reducible repeat (first | refine blk_drewN ?_ _ | refine blk_drew ?_ | refine blk_alloc ?_ _)); exact BK237.out) NB237_248.out (by simp)); have n1_ := Aside0.mk (KeepBut.blk hk (g' := gb241) (o := .cells #[.int .i64 t238, .int .i64 t239, .string x242002_3] 23 (0, 0)) (by (with_reducible repeat (first | refine blk_drewN ?_ _ | refine blk_drew ?_ | refine blk_alloc ?_ _)); exact BK241.out) NB241_248.out (by simp)); have n2_ := Aside0.mk (hb); have n3_ := Aside0.mk (hi); clear BK237; clear BK241; clear HB; clear HI248; have BK237 := n0_; have BK241 := n1_; have HB := n2_; have HI248 := n3_; clear n0_ n1_ n2_ n3_; (try clear hb); (try clear hb2); (try clear hk); (try clear hi)) | ((with_reducible refine gate_dst (N := 8) rfl ?_); refine box_event ?hg (N := 8) ?hd (cs := #[.int .i64 0, .int .i64 0, .string (⟨#[]⟩ : ByteArray)]) (t := 23) ?hr ?_; (case hd => rfl); (case hg => rfl); (case hr => first | (go_simp; done) | (go_simp; rfl)); intro gb254 hg w30 hbox hb; have n0_ := Aside0.mk (blk_below (g := gb237) (o := .cells #[.int .i64 a0_0, .int .i64 a0_1, .string a0_2] 23 (0, 0)) (by (with_reducible repeat (first | refine blk_drewN ?_ _ | refine blk_drew ?_ | refine blk_alloc ?_ _)); exact BK237.out) hb); have n1_ := Aside0.mk (blk_below (g := gb241) (o := .cells #[.int .i64 t238, .int .i64 t239, .string x242002_3] 23 (0, 0)) (by (with_reducible repeat (first | refine blk_drewN ?_ _ | refine blk_drew ?_ | refine blk_alloc ?_ _)); exact BK241.out) hb); have n2_ := Aside0.mk (IsS46.below (by repeat (first | (with_reducible first | exact HI248.out | apply IsS46.alloc | apply IsS46.drewN | apply IsS46.drew | apply IsS46.set_0 | apply IsS46.set_1 | refine IsS46.far ?_ NB248_237.out _ | refine IsS46.far ?_ NB248_241.out _) | exact HI248.out)) hb); have n3_ := Aside0.mk (below_step (by repeat (first | (with_reducible first | exact HB.out | apply below_alloc | apply pw_below_drewN | apply below_drew1 | refine below_set ?_ (IsS46.ge HI248.out) | refine below_set ?_ GE237.out | refine below_set ?_ GE241.out) | exact HB.out)) hb); have n4_ := Aside0.mk (hbox); have n5_ := Aside0.mk ((by rw [hg]; exact (below_size (by repeat (first | (with_reducible first | exact HB.out | apply below_alloc | apply pw_below_drewN | apply below_drew1 | refine below_set ?_ (IsS46.ge HI248.out) | refine below_set ?_ GE237.out | refine below_set ?_ GE241.out) | exact HB.out))) : w.heap.size ≤ gb254)); have n6_ := Aside0.mk ((by rw [hg]; exact (below_size (by repeat (first | (with_reducible first | exact HB.out | apply below_alloc | apply pw_below_drewN | apply below_drew1 | refine below_set ?_ (IsS46.ge HI248.out) | refine below_set ?_ GE237.out | refine below_set ?_ GE241.out) | exact HB.out))) : w.heap.size ≤ gb254)); have n7_ := Aside0.mk ((by rw [hg]; exact Nat.ne_of_lt (blk_lt (g := gb237) (o := .cells #[.int .i64 a0_0, .int .i64 a0_1, .string a0_2] 23 (0, 0)) (by (with_reducible repeat (first | refine blk_drewN ?_ _ | refine blk_drew ?_ | refine blk_alloc ?_ _)); exact BK237.out)) : gb237 ≠ gb254)); have n8_ := Aside0.mk ((by rw [hg]; exact Nat.ne_of_gt (blk_lt (g := gb237) (o := .cells #[.int .i64 a0_0, .int .i64 a0_1, .string a0_2] 23 (0, 0)) (by (with_reducible repeat (first | refine blk_drewN ?_ _ | refine blk_drew ?_ | refine blk_alloc ?_ _)); exact BK237.out)) : gb254 ≠ gb237)); have n9_ := Aside0.mk ((by rw [hg]; exact Nat.ne_of_lt (blk_lt (g := gb241) (o := .cells #[.int .i64 t238, .int .i64 t239, .string x242002_3] 23 (0, 0)) (by (with_reducible repeat (first | refine blk_drewN ?_ _ | refine blk_drew ?_ | refine blk_alloc ?_ _)); exact BK241.out)) : gb241 ≠ gb254)); have n10_ := Aside0.mk ((by rw [hg]; exact Nat.ne_of_gt (blk_lt (g := gb241) (o := .cells #[.int .i64 t238, .int .i64 t239, .string x242002_3] 23 (0, 0)) (by (with_reducible repeat (first | refine blk_drewN ?_ _ | refine blk_drew ?_ | refine blk_alloc ?_ _)); exact BK241.out)) : gb254 ≠ gb241)); have n11_ := Aside0.mk ((by rw [hg]; exact Nat.ne_of_lt (IsS46.lt (show IsS46 w _ g248 t252 t253 from by repeat (first | (with_reducible first | exact HI248.out | apply IsS46.alloc | apply IsS46.drewN | apply IsS46.drew | apply IsS46.set_0 | apply IsS46.set_1 | refine IsS46.far ?_ NB248_237.out _ | refine IsS46.far ?_ NB248_241.out _) | exact HI248.out))) : g248 ≠ gb254)); have n12_ := Aside0.mk ((by rw [hg]; exact Nat.ne_of_gt (IsS46.lt (show IsS46 w _ g248 t252 t253 from by repeat (first | (with_reducible first | exact HI248.out | apply IsS46.alloc | apply IsS46.drewN | apply IsS46.drew | apply IsS46.set_0 | apply IsS46.set_1 | refine IsS46.far ?_ NB248_237.out _ | refine IsS46.far ?_ NB248_241.out _) | exact HI248.out))) : gb254 ≠ g248)); clear BK237; clear BK241; clear HI248; clear HB; have BK237 := n0_; have BK241 := n1_; have HI248 := n2_; have HB := n3_; have BK254 := n4_; have GW254 := n5_; have GE254 := n6_; have NB237_254 := n7_; have NB254_237 := n8_; have NB241_254 := n9_; have NB254_241 := n10_; have NB248_254 := n11_; have NB254_248 := n12_; clear n0_ n1_ n2_ n3_ n4_ n5_ n6_ n7_ n8_ n9_ n10_ n11_ n12_; clear hb hbox hg; have hnb31 := NB254_237.out; have hnc31 := NB237_254.out; have hnb32 := NB254_241.out; have hnc32 := NB241_254.out; have hnb33 := NB254_248.out; have hnc33 := NB248_254.out; have hcz34_0 : w30.cell? ⟨gb254, 0, none⟩ = some (.int .i64 0) := (blk_cell BK254.out 0).trans rfl; have hcz34_1 : w30.cell? ⟨gb254, 1, none⟩ = some (.int .i64 0) := (blk_cell BK254.out 1).trans rfl; have hcz34_2 : w30.cell? ⟨gb254, 2, none⟩ = some (.string (⟨#[]⟩ : ByteArray)) := (blk_cell BK254.out 2).trans rfl; have hfz34_0 := blk_frozen BK254.out 0; have hfz34_1 := blk_frozen BK254.out 1; have hfz34_2 := blk_frozen BK254.out 2))
      (try simp only [Act.put, List.setIfInBounds_toArray, List.set_cons_zero, List.set_cons_succ])
      go_cut [49] (fun v49 wc => ∃ (kq : Nat) (x49_23 : Bool), v49 = .bool x49_23 ∧ Aside0 (lodestonelaw23_ValuePuts.j1 kq t245 x49_23 t238 t239 x242002_3 t252 t253 t249 t250 t251 = some r) ∧ Aside0 (kq ≤ kj3) ∧ Aside0 (wc.heap[gb237]? = some (.cells #[.int .i64 a0_0, .int .i64 a0_1, .string a0_2] 23 (0, 0))) ∧ Aside0 (wc.heap[gb241]? = some (.cells #[.int .i64 t238, .int .i64 t239, .string x242002_3] 23 (0, 0))) ∧ Aside0 (wc.heap[gb254]? = some (.cells #[.int .i64 t249, .int .i64 t250, .string t251] 23 (0, 0))) ∧ Aside0 (IsS46 w wc g248 t252 t253) ∧ Aside0 (Below w.heap.size w wc))
      case first =>
        have H := HC24.out
        clear HC24
        replace H := Option.bind_eq_some_iff.mp H
        obtain ⟨t255, A350, H⟩ := H
        replace H : (if t255 = true then ((lodestoneref23_Put.f kj3 t238 t239 x242002_3).bind fun t256 => (if t245.toList = t256.toList then ((value_May.f t238 t239 x242002_3).bind fun t257 => ((lodestoneref23_May.f t238 t239 x242002_3).bind fun t258 => (if (t257 != t258) = true then (lodestonelaw23_ValuePuts.j1 kj3 t245 true t238 t239 x242002_3 t252 t253 t249 t250 t251) else ((value_Words.f t238 t239 x242002_3).bind fun t259 => ((lodestoneref23_Words.f t238 t239 x242002_3).bind fun t260 => (lodestonelaw23_ValuePuts.j1 kj3 t245 (t259 != t260) t238 t239 x242002_3 t252 t253 t249 t250 t251)))))) else (lodestonelaw23_ValuePuts.j1 kj3 t245 true t238 t239 x242002_3 t252 t253 t249 t250 t251))) else (lodestonelaw23_ValuePuts.j1 kj3 t245 true t238 t239 x242002_3 t252 t253 t249 t250 t251)) = some r := H
        have A35 := Aside0.mk A350
        clear A350
        by_cases c36 : t255 = true
        · subst c36
          have H1 : ((lodestoneref23_Put.f kj3 t238 t239 x242002_3).bind fun t256 => (if t245.toList = t256.toList then ((value_May.f t238 t239 x242002_3).bind fun t257 => ((lodestoneref23_May.f t238 t239 x242002_3).bind fun t258 => (if (t257 != t258) = true then (lodestonelaw23_ValuePuts.j1 kj3 t245 true t238 t239 x242002_3 t252 t253 t249 t250 t251) else ((value_Words.f t238 t239 x242002_3).bind fun t259 => ((lodestoneref23_Words.f t238 t239 x242002_3).bind fun t260 => (lodestonelaw23_ValuePuts.j1 kj3 t245 (t259 != t260) t238 t239 x242002_3 t252 t253 t249 t250 t251)))))) else (lodestonelaw23_ValuePuts.j1 kj3 t245 true t238 t239 x242002_3 t252 t253 t249 t250 t251))) = some r := by rw [if_pos rfl] at H; exact H
          clear H
          have H := H1
          clear H1
          replace H := Option.bind_eq_some_iff.mp H
          obtain ⟨t256, A370, H⟩ := H
          replace H : (if t245.toList = t256.toList then ((value_May.f t238 t239 x242002_3).bind fun t257 => ((lodestoneref23_May.f t238 t239 x242002_3).bind fun t258 => (if (t257 != t258) = true then (lodestonelaw23_ValuePuts.j1 kj3 t245 true t238 t239 x242002_3 t252 t253 t249 t250 t251) else ((value_Words.f t238 t239 x242002_3).bind fun t259 => ((lodestoneref23_Words.f t238 t239 x242002_3).bind fun t260 => (lodestonelaw23_ValuePuts.j1 kj3 t245 (t259 != t260) t238 t239 x242002_3 t252 t253 t249 t250 t251)))))) else (lodestonelaw23_ValuePuts.j1 kj3 t245 true t238 t239 x242002_3 t252 t253 t249 t250 t251)) = some r := H
          have A37 := Aside0.mk A370
          clear A370
          by_cases c38 : t245.toList = t256.toList
          · rw [if_pos c38] at H
            have c38b0 : (t245.toList == t256.toList) = true := beq_iff_eq.mpr c38
            have c38b1 : (t245.toList != t256.toList) = false := bne_eq_false_iff_eq.mpr c38
            clear c38
            (first | rw [c38b0] | (simp only [i64_w, i32_w]; rw [c38b0]) | skip)
            replace H := Option.bind_eq_some_iff.mp H
            obtain ⟨t257, A390, H⟩ := H
            replace H : ((lodestoneref23_May.f t238 t239 x242002_3).bind fun t258 => (if (t257 != t258) = true then (lodestonelaw23_ValuePuts.j1 kj3 t245 true t238 t239 x242002_3 t252 t253 t249 t250 t251) else ((value_Words.f t238 t239 x242002_3).bind fun t259 => ((lodestoneref23_Words.f t238 t239 x242002_3).bind fun t260 => (lodestonelaw23_ValuePuts.j1 kj3 t245 (t259 != t260) t238 t239 x242002_3 t252 t253 t249 t250 t251))))) = some r := H
            have A39 := Aside0.mk A390
            clear A390
            replace H := Option.bind_eq_some_iff.mp H
            obtain ⟨t258, A400, H⟩ := H
            replace H : (if (t257 != t258) = true then (lodestonelaw23_ValuePuts.j1 kj3 t245 true t238 t239 x242002_3 t252 t253 t249 t250 t251) else ((value_Words.f t238 t239 x242002_3).bind fun t259 => ((lodestoneref23_Words.f t238 t239 x242002_3).bind fun t260 => (lodestonelaw23_ValuePuts.j1 kj3 t245 (t259 != t260) t238 t239 x242002_3 t252 t253 t249 t250 t251)))) = some r := H
            have A40 := Aside0.mk A400
            clear A400
            by_cases c41 : (t257 != t258) = true
            · rw [if_pos c41] at H
              have c41b0 : (t257 != t258) = true := c41
              (try (have c41b1 : decide (t257 = t258) = false := by simpa using c41))
              (try (have c41b2 : (t257 == t258) = false := by simpa using c41))
              (try (have c41b3 : ¬ (t257 = t258) := by simpa using c41))
              clear c41
              have H' := Aside0.mk H
              clear H
              try go_wp2
              have n0_ : Aside0 ((((w30.setCell ⟨gb254, 0, none⟩ (.int .i64 t249)).setCell ⟨gb254, 1, none⟩ (.int .i64 t250)).setCell ⟨gb254, 2, none⟩ (.string t251)).heap[gb237]? = some (.cells #[.int .i64 a0_0, .int .i64 a0_1, .string a0_2] 23 (0, 0))) := ⟨by (with_reducible repeat (first | refine blk_drewN ?_ _ | refine blk_drew ?_ | refine blk_alloc ?_ _)); refine blk_far ?_ NB237_254.out _; (with_reducible repeat (first | refine blk_drewN ?_ _ | refine blk_drew ?_ | refine blk_alloc ?_ _)); refine blk_far ?_ NB237_254.out _; (with_reducible repeat (first | refine blk_drewN ?_ _ | refine blk_drew ?_ | refine blk_alloc ?_ _)); refine blk_far ?_ NB237_254.out _; (with_reducible repeat (first | refine blk_drewN ?_ _ | refine blk_drew ?_ | refine blk_alloc ?_ _)); exact BK237.out⟩
              have n1_ : Aside0 ((((w30.setCell ⟨gb254, 0, none⟩ (.int .i64 t249)).setCell ⟨gb254, 1, none⟩ (.int .i64 t250)).setCell ⟨gb254, 2, none⟩ (.string t251)).heap[gb241]? = some (.cells #[.int .i64 t238, .int .i64 t239, .string x242002_3] 23 (0, 0))) := ⟨by (with_reducible repeat (first | refine blk_drewN ?_ _ | refine blk_drew ?_ | refine blk_alloc ?_ _)); refine blk_far ?_ NB241_254.out _; (with_reducible repeat (first | refine blk_drewN ?_ _ | refine blk_drew ?_ | refine blk_alloc ?_ _)); refine blk_far ?_ NB241_254.out _; (with_reducible repeat (first | refine blk_drewN ?_ _ | refine blk_drew ?_ | refine blk_alloc ?_ _)); refine blk_far ?_ NB241_254.out _; (with_reducible repeat (first | refine blk_drewN ?_ _ | refine blk_drew ?_ | refine blk_alloc ?_ _)); exact BK241.out⟩
              have n2_ : Aside0 ((((w30.setCell ⟨gb254, 0, none⟩ (.int .i64 t249)).setCell ⟨gb254, 1, none⟩ (.int .i64 t250)).setCell ⟨gb254, 2, none⟩ (.string t251)).heap[gb254]? = some (.cells #[.int .i64 t249, .int .i64 t250, .string t251] 23 (0, 0))) := ⟨by (with_reducible repeat (first | refine blk_drewN ?_ _ | refine blk_drew ?_ | refine blk_alloc ?_ _)); refine blk_put (cs := #[.int .i64 t249, .int .i64 t250, .string (⟨#[]⟩ : ByteArray)]) ?_ 2 _ rfl; (with_reducible repeat (first | refine blk_drewN ?_ _ | refine blk_drew ?_ | refine blk_alloc ?_ _)); refine blk_put (cs := #[.int .i64 t249, .int .i64 0, .string (⟨#[]⟩ : ByteArray)]) ?_ 1 _ rfl; (with_reducible repeat (first | refine blk_drewN ?_ _ | refine blk_drew ?_ | refine blk_alloc ?_ _)); refine blk_put (cs := #[.int .i64 0, .int .i64 0, .string (⟨#[]⟩ : ByteArray)]) ?_ 0 _ rfl; (with_reducible repeat (first | refine blk_drewN ?_ _ | refine blk_drew ?_ | refine blk_alloc ?_ _)); exact BK254.out⟩
              have n3_ : Aside0 (IsS46 w (((w30.setCell ⟨gb254, 0, none⟩ (.int .i64 t249)).setCell ⟨gb254, 1, none⟩ (.int .i64 t250)).setCell ⟨gb254, 2, none⟩ (.string t251)) g248 t252 t253) := ⟨by repeat (first | (with_reducible first | exact HI248.out | apply IsS46.alloc | apply IsS46.drewN | apply IsS46.drew | apply IsS46.set_0 | apply IsS46.set_1 | refine IsS46.far ?_ NB248_237.out _ | refine IsS46.far ?_ NB248_241.out _ | refine IsS46.far ?_ NB248_254.out _) | exact HI248.out)⟩
              have n4_ : Aside0 (Below w.heap.size w (((w30.setCell ⟨gb254, 0, none⟩ (.int .i64 t249)).setCell ⟨gb254, 1, none⟩ (.int .i64 t250)).setCell ⟨gb254, 2, none⟩ (.string t251))) := ⟨by repeat (first | (with_reducible first | exact HB.out | apply below_alloc | apply pw_below_drewN | apply below_drew1 | refine below_set ?_ (IsS46.ge HI248.out) | refine below_set ?_ GE237.out | refine below_set ?_ GE241.out | refine below_set ?_ GE254.out) | exact HB.out)⟩
              (try clear BK237)
              (try clear BK241)
              (try clear BK254)
              (try clear HI248)
              (try clear HB)
              generalize (((w30.setCell ⟨gb254, 0, none⟩ (.int .i64 t249)).setCell ⟨gb254, 1, none⟩ (.int .i64 t250)).setCell ⟨gb254, 2, none⟩ (.string t251)) = w42 at n0_ n1_ n2_ n3_ n4_ ⊢
              have BK237 := n0_
              have BK241 := n1_
              have BK254 := n2_
              have HI248 := n3_
              have HB := n4_
              clear n0_ n1_ n2_ n3_ n4_
              have n0_ := Aside0.mk (blk_drew BK237.out)
              have n1_ := Aside0.mk (blk_drew BK241.out)
              have n2_ := Aside0.mk (blk_drew BK254.out)
              have n3_ := Aside0.mk (IsS46.drew HI248.out)
              have n4_ := Aside0.mk (below_drew1 HB.out)
              clear BK237
              clear BK241
              clear BK254
              clear HI248
              clear HB
              have BK237 := n0_
              have BK241 := n1_
              have BK254 := n2_
              have HI248 := n3_
              have HB := n4_
              clear n0_ n1_ n2_ n3_ n4_
              refine start_ (n := 22) (S := fun w' => w'.cell? ⟨gb241, 0, none⟩ = some (.int .i64 t238) ∧ w'.cell? ⟨gb241, 1, none⟩ = some (.int .i64 t239) ∧ w'.cell? ⟨gb241, 2, none⟩ = some (.string x242002_3)) (ds := []) #[false, false, false, false, false, false, false, false, false, false, false, false, false, false, false, false, false, false, false, false, false, false] (by kernel_rfl) rfl rfl ⟨(blk_cell BK241.out 0).trans rfl, (blk_cell BK241.out 1).trans rfl, (blk_cell BK241.out 2).trans rfl⟩ (fun hHeld => ?_); refine with_tabW lodestonelaw23_ValuePuts.tab7 lodestonelaw23_ValuePuts.bits7 (fun HT_ HW_ => ?_)
              generalize w42.drew = w43 at BK237 BK241 BK254 HI248 HB hHeld ⊢
              refine one_ (i := 0) (N := some 28) #[true, false, false, false, false, false, false, false, false, false, false, false, false, false, false, false, false, false, false, false, false, false] rfl rfl (one_of HT_.out (by kernel_rfl)) (by decide) (fun K hK => ?_)
              refine goes_ Try.func6 (by kernel_rfl) rfl #[] (by rfl) rfl rfl (by (try simp only [List.map_toArray, List.map_cons, List.map_nil]); first | done | rfl | (simp only [List.length_drop, List.length_take]; rfl)) ?_
              with_reducible refine (lodestonelaw23_awake.calls kj3  true _ A35.out).mono ?_
              rintro e w44 ⟨rfl, hb⟩
              refine ⟨_, rfl, ?_⟩
              have n0_ := Aside0.mk (blk_below (g := gb237) (o := .cells #[.int .i64 a0_0, .int .i64 a0_1, .string a0_2] 23 (0, 0)) (by (with_reducible repeat (first | refine blk_drewN ?_ _ | refine blk_drew ?_ | refine blk_alloc ?_ _)); exact BK237.out) hb)
              have n1_ := Aside0.mk (blk_below (g := gb241) (o := .cells #[.int .i64 t238, .int .i64 t239, .string x242002_3] 23 (0, 0)) (by (with_reducible repeat (first | refine blk_drewN ?_ _ | refine blk_drew ?_ | refine blk_alloc ?_ _)); exact BK241.out) hb)
              have n2_ := Aside0.mk (IsS46.below (by repeat (first | (with_reducible first | exact HI248.out | apply IsS46.alloc | apply IsS46.drewN | apply IsS46.drew | apply IsS46.set_0 | apply IsS46.set_1 | refine IsS46.far ?_ NB248_237.out _ | refine IsS46.far ?_ NB248_241.out _ | refine IsS46.far ?_ NB248_254.out _) | exact HI248.out)) hb)
              have n3_ := Aside0.mk (blk_below (g := gb254) (o := .cells #[.int .i64 t249, .int .i64 t250, .string t251] 23 (0, 0)) (by (with_reducible repeat (first | refine blk_drewN ?_ _ | refine blk_drew ?_ | refine blk_alloc ?_ _)); exact BK254.out) hb)
              have n4_ := Aside0.mk (below_step (by repeat (first | (with_reducible first | exact HB.out | apply below_alloc | apply pw_below_drewN | apply below_drew1 | refine below_set ?_ (IsS46.ge HI248.out) | refine below_set ?_ GE237.out | refine below_set ?_ GE241.out | refine below_set ?_ GE254.out) | exact HB.out)) hb)
              clear BK237
              clear BK241
              clear HI248
              clear BK254
              clear HB
              have BK237 := n0_
              have BK241 := n1_
              have HI248 := n2_
              have BK254 := n3_
              have HB := n4_
              clear n0_ n1_ n2_ n3_ n4_
              (try clear hb)
              (try clear hb2)
              (try clear hk)
              (try clear hi)
              refine hK.out _ _ ⟨(blk_cell BK241.out 0).trans rfl, (blk_cell BK241.out 1).trans rfl, (blk_cell BK241.out 2).trans rfl⟩ (fun hHeld => ?_)
              clear hK K
              refine norm_ (a' := ?_) ?_ ?_
              rotate_left
              · show Act.put _ (some 28) _ = _
                simp only [Act.put, List.setIfInBounds_toArray, List.set_cons_zero, List.set_cons_succ, i64_w, i32_w]
                rfl
              refine pure_ (i := 1) (N := some 29) (v := ?_) (a' := ?_) #[true, true, false, false, false, false, false, false, false, false, false, false, false, false, false, false, false, false, false, false, false, false] rfl rfl (any_of HT_.out (by kernel_rfl)) (fun _ _ _ h => h) (Or.inl ⟨by rfl, ?_⟩) ?_ ?_
              rotate_left
              · intro w'
                go_simp
                with_reducible rfl
              rotate_left
              · simp only [Act.put, List.setIfInBounds_toArray, List.set_cons_zero, List.set_cons_succ, i64_w, i32_w]
                rfl
              refine pure_ (i := 2) (N := some 30) (v := ?_) (a' := ?_) #[true, true, true, false, false, false, false, false, false, false, false, false, false, false, false, false, false, false, false, false, false, false] rfl rfl (any_of HT_.out (by kernel_rfl)) (fun _ _ _ h => h) (Or.inl ⟨by rfl, ?_⟩) ?_ ?_
              rotate_left
              · intro w'
                go_simp
                with_reducible rfl
              rotate_left
              · simp only [Act.put, List.setIfInBounds_toArray, List.set_cons_zero, List.set_cons_succ, i64_w, i32_w]
                rfl
              refine pure_ (i := 3) (N := some 31) (v := ?_) (a' := ?_) #[true, true, true, true, false, false, false, false, false, false, false, false, false, false, false, false, false, false, false, false, false, false] rfl rfl (any_of HT_.out (by kernel_rfl)) (fun _ _ _ h => h) (Or.inl ⟨by rfl, ?_⟩) ?_ ?_
              rotate_left
              · intro w'
                go_simp
                with_reducible rfl
              rotate_left
              · simp only [Act.put, List.setIfInBounds_toArray, List.set_cons_zero, List.set_cons_succ, i64_w, i32_w]
                rfl
              refine take_ (i := 4) (N := some 32) (v := ?_) (a' := ?_) #[true, true, true, true, true, false, false, false, false, false, false, false, false, false, false, false, false, false, false, false, false, false] rfl rfl (take_ofW HT_.out HW_.out (by kernel_rfl)) (fun _ _ _ h => h) (Or.inl ⟨by rfl, ?_⟩) hHeld ?_ ?_
              rotate_left
              · rintro w' ⟨s0, s1, s2⟩
                go_simp
                with_reducible rfl
              rotate_left
              · simp only [Act.put, List.setIfInBounds_toArray, List.set_cons_zero, List.set_cons_succ, i64_w, i32_w]
                rfl
              refine one_ (i := 5) (N := some 33) #[true, true, true, true, true, true, false, false, false, false, false, false, false, false, false, false, false, false, false, false, false, false] rfl rfl (one_of HT_.out (by kernel_rfl)) (by decide) (fun K hK => ?_)
              refine goes_ Try.func15 (by kernel_rfl) rfl #[.agg #[.int .i64 t238, .int .i64 t239, .string x242002_3]] (by rfl) rfl rfl (by (try simp only [List.map_toArray, List.map_cons, List.map_nil]); first | done | rfl | (simp only [List.length_drop, List.length_take]; rfl)) ?_
              with_reducible refine (lodestoneref23_Put.calls kj3 t238 t239 x242002_3 t256 _ A37.out).mono ?_
              rintro e w45 ⟨rfl, hb⟩
              refine ⟨_, rfl, ?_⟩
              have n0_ := Aside0.mk (blk_below (g := gb237) (o := .cells #[.int .i64 a0_0, .int .i64 a0_1, .string a0_2] 23 (0, 0)) (by (with_reducible repeat (first | refine blk_drewN ?_ _ | refine blk_drew ?_ | refine blk_alloc ?_ _)); exact BK237.out) hb)
              have n1_ := Aside0.mk (blk_below (g := gb241) (o := .cells #[.int .i64 t238, .int .i64 t239, .string x242002_3] 23 (0, 0)) (by (with_reducible repeat (first | refine blk_drewN ?_ _ | refine blk_drew ?_ | refine blk_alloc ?_ _)); exact BK241.out) hb)
              have n2_ := Aside0.mk (IsS46.below (by repeat (first | (with_reducible first | exact HI248.out | apply IsS46.alloc | apply IsS46.drewN | apply IsS46.drew | apply IsS46.set_0 | apply IsS46.set_1 | refine IsS46.far ?_ NB248_237.out _ | refine IsS46.far ?_ NB248_241.out _ | refine IsS46.far ?_ NB248_254.out _) | exact HI248.out)) hb)
              have n3_ := Aside0.mk (blk_below (g := gb254) (o := .cells #[.int .i64 t249, .int .i64 t250, .string t251] 23 (0, 0)) (by (with_reducible repeat (first | refine blk_drewN ?_ _ | refine blk_drew ?_ | refine blk_alloc ?_ _)); exact BK254.out) hb)
              have n4_ := Aside0.mk (below_step (by repeat (first | (with_reducible first | exact HB.out | apply below_alloc | apply pw_below_drewN | apply below_drew1 | refine below_set ?_ (IsS46.ge HI248.out) | refine below_set ?_ GE237.out | refine below_set ?_ GE241.out | refine below_set ?_ GE254.out) | exact HB.out)) hb)
              clear BK237
              clear BK241
              clear HI248
              clear BK254
              clear HB
              have BK237 := n0_
              have BK241 := n1_
              have HI248 := n2_
              have BK254 := n3_
              have HB := n4_
              clear n0_ n1_ n2_ n3_ n4_
              (try clear hb)
              (try clear hb2)
              (try clear hk)
              (try clear hi)
              refine hK.out _ _ ⟨(blk_cell BK241.out 0).trans rfl, (blk_cell BK241.out 1).trans rfl, (blk_cell BK241.out 2).trans rfl⟩ (fun hHeld => ?_)
              clear hK K
              refine norm_ (a' := ?_) ?_ ?_
              rotate_left
              · show Act.put _ (some 33) _ = _
                simp only [Act.put, List.setIfInBounds_toArray, List.set_cons_zero, List.set_cons_succ, i64_w, i32_w]
                rfl
              refine pure_ (i := 6) (N := some 34) (v := ?_) (a' := ?_) #[true, true, true, true, true, true, true, false, false, false, false, false, false, false, false, false, false, false, false, false, false, false] rfl rfl (any_of HT_.out (by kernel_rfl)) (fun _ _ _ h => h) (Or.inl ⟨by rfl, ?_⟩) ?_ ?_
              rotate_left
              · intro w'
                go_simp
                with_reducible rfl
              rotate_left
              · simp only [Act.put, List.setIfInBounds_toArray, List.set_cons_zero, List.set_cons_succ, i64_w, i32_w]
                rfl
              refine pure_ (i := 7) (N := some 35) (v := ?_) (a' := ?_) #[true, true, true, true, true, true, true, true, false, false, false, false, false, false, false, false, false, false, false, false, false, false] rfl rfl (any_of HT_.out (by kernel_rfl)) (fun _ _ _ h => h) (Or.inl ⟨by rfl, ?_⟩) ?_ ?_
              rotate_left
              · intro w'
                go_simp
                with_reducible rfl
              rotate_left
              · simp only [Act.put, List.setIfInBounds_toArray, List.set_cons_zero, List.set_cons_succ, i64_w, i32_w]
                rfl
              refine pure_ (i := 8) (N := some 36) (v := ?_) (a' := ?_) #[true, true, true, true, true, true, true, true, true, false, false, false, false, false, false, false, false, false, false, false, false, false] rfl rfl (any_of HT_.out (by kernel_rfl)) (fun _ _ _ h => h) (Or.inl ⟨by rfl, ?_⟩) ?_ ?_
              rotate_left
              · intro w'
                go_simp
                with_reducible rfl
              rotate_left
              · simp only [Act.put, List.setIfInBounds_toArray, List.set_cons_zero, List.set_cons_succ, i64_w, i32_w]
                rfl
              refine take_ (i := 9) (N := some 37) (v := ?_) (a' := ?_) #[true, true, true, true, true, true, true, true, true, true, false, false, false, false, false, false, false, false, false, false, false, false] rfl rfl (take_ofW HT_.out HW_.out (by kernel_rfl)) (fun _ _ _ h => h) (Or.inl ⟨by rfl, ?_⟩) hHeld ?_ ?_
              rotate_left
              · rintro w' ⟨s0, s1, s2⟩
                go_simp
                with_reducible rfl
              rotate_left
              · simp only [Act.put, List.setIfInBounds_toArray, List.set_cons_zero, List.set_cons_succ, i64_w, i32_w]
                rfl
              refine take_ (i := 11) (N := some 39) (v := ?_) (a' := ?_) #[true, true, true, true, true, true, true, true, true, true, false, true, false, false, false, false, false, false, false, false, false, false] rfl rfl (take_ofW HT_.out HW_.out (by kernel_rfl)) (fun _ _ _ h => h) (Or.inl ⟨by rfl, ?_⟩) hHeld ?_ ?_
              rotate_left
              · rintro w' ⟨s0, s1, s2⟩
                go_simp
                with_reducible rfl
              rotate_left
              · simp only [Act.put, List.setIfInBounds_toArray, List.set_cons_zero, List.set_cons_succ, i64_w, i32_w]
                rfl
              refine one_ (i := 10) (N := some 38) #[true, true, true, true, true, true, true, true, true, true, true, true, false, false, false, false, false, false, false, false, false, false] rfl rfl (one_of HT_.out (by kernel_rfl)) (by decide) (fun K hK => ?_)
              refine goes_ Try.func9 (by kernel_rfl) rfl #[.agg #[.int .i64 t238, .int .i64 t239, .string x242002_3]] (by rfl) rfl rfl (by (try simp only [List.map_toArray, List.map_cons, List.map_nil]); first | done | rfl | (simp only [List.length_drop, List.length_take]; rfl)) ?_
              with_reducible refine (value_May.calls t238 t239 x242002_3 t257 _ A39.out).mono ?_
              rintro e w46 ⟨rfl, hb⟩
              refine ⟨_, rfl, ?_⟩
              have n0_ := Aside0.mk (blk_below (g := gb237) (o := .cells #[.int .i64 a0_0, .int .i64 a0_1, .string a0_2] 23 (0, 0)) (by (with_reducible repeat (first | refine blk_drewN ?_ _ | refine blk_drew ?_ | refine blk_alloc ?_ _)); exact BK237.out) hb)
              have n1_ := Aside0.mk (blk_below (g := gb241) (o := .cells #[.int .i64 t238, .int .i64 t239, .string x242002_3] 23 (0, 0)) (by (with_reducible repeat (first | refine blk_drewN ?_ _ | refine blk_drew ?_ | refine blk_alloc ?_ _)); exact BK241.out) hb)
              have n2_ := Aside0.mk (IsS46.below (by repeat (first | (with_reducible first | exact HI248.out | apply IsS46.alloc | apply IsS46.drewN | apply IsS46.drew | apply IsS46.set_0 | apply IsS46.set_1 | refine IsS46.far ?_ NB248_237.out _ | refine IsS46.far ?_ NB248_241.out _ | refine IsS46.far ?_ NB248_254.out _) | exact HI248.out)) hb)
              have n3_ := Aside0.mk (blk_below (g := gb254) (o := .cells #[.int .i64 t249, .int .i64 t250, .string t251] 23 (0, 0)) (by (with_reducible repeat (first | refine blk_drewN ?_ _ | refine blk_drew ?_ | refine blk_alloc ?_ _)); exact BK254.out) hb)
              have n4_ := Aside0.mk (below_step (by repeat (first | (with_reducible first | exact HB.out | apply below_alloc | apply pw_below_drewN | apply below_drew1 | refine below_set ?_ (IsS46.ge HI248.out) | refine below_set ?_ GE237.out | refine below_set ?_ GE241.out | refine below_set ?_ GE254.out) | exact HB.out)) hb)
              clear BK237
              clear BK241
              clear HI248
              clear BK254
              clear HB
              have BK237 := n0_
              have BK241 := n1_
              have HI248 := n2_
              have BK254 := n3_
              have HB := n4_
              clear n0_ n1_ n2_ n3_ n4_
              (try clear hb)
              (try clear hb2)
              (try clear hk)
              (try clear hi)
              refine hK.out _ _ ⟨(blk_cell BK241.out 0).trans rfl, (blk_cell BK241.out 1).trans rfl, (blk_cell BK241.out 2).trans rfl⟩ (fun hHeld => ?_)
              clear hK K
              refine norm_ (a' := ?_) ?_ ?_
              rotate_left
              · show Act.put _ (some 38) _ = _
                simp only [Act.put, List.setIfInBounds_toArray, List.set_cons_zero, List.set_cons_succ, i64_w, i32_w]
                rfl
              refine one_ (i := 12) (N := some 40) #[true, true, true, true, true, true, true, true, true, true, true, true, true, false, false, false, false, false, false, false, false, false] rfl rfl (one_of HT_.out (by kernel_rfl)) (by decide) (fun K hK => ?_)
              refine goes_ Try.func16 (by kernel_rfl) rfl #[.agg #[.int .i64 t238, .int .i64 t239, .string x242002_3]] (by rfl) rfl rfl (by (try simp only [List.map_toArray, List.map_cons, List.map_nil]); first | done | rfl | (simp only [List.length_drop, List.length_take]; rfl)) ?_
              with_reducible refine (lodestoneref23_May.calls t238 t239 x242002_3 t258 _ A40.out).mono ?_
              rintro e w47 ⟨rfl, hb⟩
              refine ⟨_, rfl, ?_⟩
              have n0_ := Aside0.mk (blk_below (g := gb237) (o := .cells #[.int .i64 a0_0, .int .i64 a0_1, .string a0_2] 23 (0, 0)) (by (with_reducible repeat (first | refine blk_drewN ?_ _ | refine blk_drew ?_ | refine blk_alloc ?_ _)); exact BK237.out) hb)
              have n1_ := Aside0.mk (blk_below (g := gb241) (o := .cells #[.int .i64 t238, .int .i64 t239, .string x242002_3] 23 (0, 0)) (by (with_reducible repeat (first | refine blk_drewN ?_ _ | refine blk_drew ?_ | refine blk_alloc ?_ _)); exact BK241.out) hb)
              have n2_ := Aside0.mk (IsS46.below (by repeat (first | (with_reducible first | exact HI248.out | apply IsS46.alloc | apply IsS46.drewN | apply IsS46.drew | apply IsS46.set_0 | apply IsS46.set_1 | refine IsS46.far ?_ NB248_237.out _ | refine IsS46.far ?_ NB248_241.out _ | refine IsS46.far ?_ NB248_254.out _) | exact HI248.out)) hb)
              have n3_ := Aside0.mk (blk_below (g := gb254) (o := .cells #[.int .i64 t249, .int .i64 t250, .string t251] 23 (0, 0)) (by (with_reducible repeat (first | refine blk_drewN ?_ _ | refine blk_drew ?_ | refine blk_alloc ?_ _)); exact BK254.out) hb)
              have n4_ := Aside0.mk (below_step (by repeat (first | (with_reducible first | exact HB.out | apply below_alloc | apply pw_below_drewN | apply below_drew1 | refine below_set ?_ (IsS46.ge HI248.out) | refine below_set ?_ GE237.out | refine below_set ?_ GE241.out | refine below_set ?_ GE254.out) | exact HB.out)) hb)
              clear BK237
              clear BK241
              clear HI248
              clear BK254
              clear HB
              have BK237 := n0_
              have BK241 := n1_
              have HI248 := n2_
              have BK254 := n3_
              have HB := n4_
              clear n0_ n1_ n2_ n3_ n4_
              (try clear hb)
              (try clear hb2)
              (try clear hk)
              (try clear hi)
              refine hK.out _ _ ⟨(blk_cell BK241.out 0).trans rfl, (blk_cell BK241.out 1).trans rfl, (blk_cell BK241.out 2).trans rfl⟩ (fun hHeld => ?_)
              clear hK K
              refine norm_ (a' := ?_) ?_ ?_
              rotate_left
              · show Act.put _ (some 40) _ = _
                simp only [Act.put, List.setIfInBounds_toArray, List.set_cons_zero, List.set_cons_succ, i64_w, i32_w]
                rfl
              refine pure_ (i := 13) (N := some 41) (v := ?_) (a' := ?_) #[true, true, true, true, true, true, true, true, true, true, true, true, true, true, false, false, false, false, false, false, false, false] rfl rfl (any_of HT_.out (by kernel_rfl)) (fun _ _ _ h => h) (Or.inl ⟨by rfl, ?_⟩) ?_ ?_
              rotate_left
              · intro w'
                go_simp
                with_reducible rfl
              rotate_left
              · simp only [Act.put, List.setIfInBounds_toArray, List.set_cons_zero, List.set_cons_succ, i64_w, i32_w]
                rfl
              refine pure_ (i := 14) (N := some 42) (v := ?_) (a' := ?_) #[true, true, true, true, true, true, true, true, true, true, true, true, true, true, true, false, false, false, false, false, false, false] rfl rfl (any_of HT_.out (by kernel_rfl)) (fun _ _ _ h => h) (Or.inl ⟨by rfl, ?_⟩) ?_ ?_
              rotate_left
              · intro w'
                go_simp
                with_reducible rfl
              rotate_left
              · simp only [Act.put, List.setIfInBounds_toArray, List.set_cons_zero, List.set_cons_succ, i64_w, i32_w]
                rfl
              refine pure_ (i := 15) (N := some 43) (v := ?_) (a' := ?_) #[true, true, true, true, true, true, true, true, true, true, true, true, true, true, true, true, false, false, false, false, false, false] rfl rfl (any_of HT_.out (by kernel_rfl)) (fun _ _ _ h => h) (Or.inl ⟨by rfl, ?_⟩) ?_ ?_
              rotate_left
              · intro w'
                go_simp
                with_reducible rfl
              rotate_left
              · simp only [Act.put, List.setIfInBounds_toArray, List.set_cons_zero, List.set_cons_succ, i64_w, i32_w]
                rfl
              refine pure_ (i := 16) (N := some 44) (v := undef) (a' := ?_) #[true, true, true, true, true, true, true, true, true, true, true, true, true, true, true, true, true, false, false, false, false, false] rfl rfl (any_of HT_.out (by kernel_rfl)) (fun _ _ _ h => h) (Or.inr ⟨by rfl, rfl⟩) ?_ ?_
              rotate_left
              · simp only [Act.put, List.setIfInBounds_toArray, List.set_cons_zero, List.set_cons_succ, i64_w, i32_w]
                rfl
              refine pure_ (i := 17) (N := some 45) (v := undef) (a' := ?_) #[true, true, true, true, true, true, true, true, true, true, true, true, true, true, true, true, true, true, false, false, false, false] rfl rfl (any_of HT_.out (by kernel_rfl)) (fun _ _ _ h => h) (Or.inr ⟨by rfl, rfl⟩) ?_ ?_
              rotate_left
              · simp only [Act.put, List.setIfInBounds_toArray, List.set_cons_zero, List.set_cons_succ, i64_w, i32_w]
                rfl
              refine pure_ (i := 18) (N := some 46) (v := undef) (a' := ?_) #[true, true, true, true, true, true, true, true, true, true, true, true, true, true, true, true, true, true, true, false, false, false] rfl rfl (any_of HT_.out (by kernel_rfl)) (fun _ _ _ h => h) (Or.inr ⟨by rfl, rfl⟩) ?_ ?_
              rotate_left
              · simp only [Act.put, List.setIfInBounds_toArray, List.set_cons_zero, List.set_cons_succ, i64_w, i32_w]
                rfl
              refine pure_ (i := 19) (N := some 47) (v := undef) (a' := ?_) #[true, true, true, true, true, true, true, true, true, true, true, true, true, true, true, true, true, true, true, true, false, false] rfl rfl (any_of HT_.out (by kernel_rfl)) (fun _ _ _ h => h) (Or.inr ⟨by rfl, rfl⟩) ?_ ?_
              rotate_left
              · simp only [Act.put, List.setIfInBounds_toArray, List.set_cons_zero, List.set_cons_succ, i64_w, i32_w]
                rfl
              refine pure_ (i := 20) (N := some 48) (v := undef) (a' := ?_) #[true, true, true, true, true, true, true, true, true, true, true, true, true, true, true, true, true, true, true, true, true, false] rfl rfl (any_of HT_.out (by kernel_rfl)) (fun _ _ _ h => h) (Or.inr ⟨by rfl, rfl⟩) ?_ ?_
              rotate_left
              · simp only [Act.put, List.setIfInBounds_toArray, List.set_cons_zero, List.set_cons_succ, i64_w, i32_w]
                rfl
              refine pure_ (i := 21) (N := some 49) (v := ?_) (a' := ?_) #[true, true, true, true, true, true, true, true, true, true, true, true, true, true, true, true, true, true, true, true, true, true] rfl rfl (any_of HT_.out (by kernel_rfl)) (fun _ _ _ h => h) (Or.inl ⟨by rfl, ?_⟩) ?_ ?_
              rotate_left
              · intro w'
                go_simp
                with_reducible rfl
              rotate_left
              · simp only [Act.put, List.setIfInBounds_toArray, List.set_cons_zero, List.set_cons_succ, i64_w, i32_w]
                rfl
              refine done_ (done_of HT_.out (by kernel_rfl)) ?_
              try go_wp2
              go_meet
              case rel => exact ⟨_, (true), (by first | rfl | (simp; done) | (simp [*]; done)), H', ⟨by have := HJ3.out; first | omega | exact Nat.le_refl _⟩, ⟨by (with_reducible repeat (first | refine blk_drewN ?_ _ | refine blk_drew ?_ | refine blk_alloc ?_ _)); exact BK237.out⟩, ⟨by (with_reducible repeat (first | refine blk_drewN ?_ _ | refine blk_drew ?_ | refine blk_alloc ?_ _)); exact BK241.out⟩, ⟨by (with_reducible repeat (first | refine blk_drewN ?_ _ | refine blk_drew ?_ | refine blk_alloc ?_ _)); exact BK254.out⟩, ⟨by repeat (first | (with_reducible first | exact HI248.out | apply IsS46.alloc | apply IsS46.drewN | apply IsS46.drew | apply IsS46.set_0 | apply IsS46.set_1 | refine IsS46.far ?_ NB248_237.out _ | refine IsS46.far ?_ NB248_241.out _ | refine IsS46.far ?_ NB248_254.out _) | exact HI248.out)⟩, ⟨by repeat (first | (with_reducible first | exact HB.out | apply below_alloc | apply pw_below_drewN | apply below_drew1 | refine below_set ?_ (IsS46.ge HI248.out) | refine below_set ?_ GE237.out | refine below_set ?_ GE241.out | refine below_set ?_ GE254.out) | exact HB.out)⟩⟩
            · rw [if_neg c41] at H
              have c41b0 : (t257 != t258) = false := by simpa using c41
              (try (have c41b1 : decide (t257 = t258) = true := by simpa using c41))
              (try (have c41b2 : (t257 == t258) = true := by simpa using c41))
              clear c41
              replace H := Option.bind_eq_some_iff.mp H
              obtain ⟨t259, A480, H⟩ := H
              replace H : ((lodestoneref23_Words.f t238 t239 x242002_3).bind fun t260 => (lodestonelaw23_ValuePuts.j1 kj3 t245 (t259 != t260) t238 t239 x242002_3 t252 t253 t249 t250 t251)) = some r := H
              have A48 := Aside0.mk A480
              clear A480
              replace H := Option.bind_eq_some_iff.mp H
              obtain ⟨t260, A490, H⟩ := H
              replace H : (lodestonelaw23_ValuePuts.j1 kj3 t245 (t259 != t260) t238 t239 x242002_3 t252 t253 t249 t250 t251) = some r := H
              have A49 := Aside0.mk A490
              clear A490
              have H' := Aside0.mk H
              clear H
              try go_wp2
              have n0_ : Aside0 ((((w30.setCell ⟨gb254, 0, none⟩ (.int .i64 t249)).setCell ⟨gb254, 1, none⟩ (.int .i64 t250)).setCell ⟨gb254, 2, none⟩ (.string t251)).heap[gb237]? = some (.cells #[.int .i64 a0_0, .int .i64 a0_1, .string a0_2] 23 (0, 0))) := ⟨by (with_reducible repeat (first | refine blk_drewN ?_ _ | refine blk_drew ?_ | refine blk_alloc ?_ _)); refine blk_far ?_ NB237_254.out _; (with_reducible repeat (first | refine blk_drewN ?_ _ | refine blk_drew ?_ | refine blk_alloc ?_ _)); refine blk_far ?_ NB237_254.out _; (with_reducible repeat (first | refine blk_drewN ?_ _ | refine blk_drew ?_ | refine blk_alloc ?_ _)); refine blk_far ?_ NB237_254.out _; (with_reducible repeat (first | refine blk_drewN ?_ _ | refine blk_drew ?_ | refine blk_alloc ?_ _)); exact BK237.out⟩
              have n1_ : Aside0 ((((w30.setCell ⟨gb254, 0, none⟩ (.int .i64 t249)).setCell ⟨gb254, 1, none⟩ (.int .i64 t250)).setCell ⟨gb254, 2, none⟩ (.string t251)).heap[gb241]? = some (.cells #[.int .i64 t238, .int .i64 t239, .string x242002_3] 23 (0, 0))) := ⟨by (with_reducible repeat (first | refine blk_drewN ?_ _ | refine blk_drew ?_ | refine blk_alloc ?_ _)); refine blk_far ?_ NB241_254.out _; (with_reducible repeat (first | refine blk_drewN ?_ _ | refine blk_drew ?_ | refine blk_alloc ?_ _)); refine blk_far ?_ NB241_254.out _; (with_reducible repeat (first | refine blk_drewN ?_ _ | refine blk_drew ?_ | refine blk_alloc ?_ _)); refine blk_far ?_ NB241_254.out _; (with_reducible repeat (first | refine blk_drewN ?_ _ | refine blk_drew ?_ | refine blk_alloc ?_ _)); exact BK241.out⟩
              have n2_ : Aside0 ((((w30.setCell ⟨gb254, 0, none⟩ (.int .i64 t249)).setCell ⟨gb254, 1, none⟩ (.int .i64 t250)).setCell ⟨gb254, 2, none⟩ (.string t251)).heap[gb254]? = some (.cells #[.int .i64 t249, .int .i64 t250, .string t251] 23 (0, 0))) := ⟨by (with_reducible repeat (first | refine blk_drewN ?_ _ | refine blk_drew ?_ | refine blk_alloc ?_ _)); refine blk_put (cs := #[.int .i64 t249, .int .i64 t250, .string (⟨#[]⟩ : ByteArray)]) ?_ 2 _ rfl; (with_reducible repeat (first | refine blk_drewN ?_ _ | refine blk_drew ?_ | refine blk_alloc ?_ _)); refine blk_put (cs := #[.int .i64 t249, .int .i64 0, .string (⟨#[]⟩ : ByteArray)]) ?_ 1 _ rfl; (with_reducible repeat (first | refine blk_drewN ?_ _ | refine blk_drew ?_ | refine blk_alloc ?_ _)); refine blk_put (cs := #[.int .i64 0, .int .i64 0, .string (⟨#[]⟩ : ByteArray)]) ?_ 0 _ rfl; (with_reducible repeat (first | refine blk_drewN ?_ _ | refine blk_drew ?_ | refine blk_alloc ?_ _)); exact BK254.out⟩
              have n3_ : Aside0 (IsS46 w (((w30.setCell ⟨gb254, 0, none⟩ (.int .i64 t249)).setCell ⟨gb254, 1, none⟩ (.int .i64 t250)).setCell ⟨gb254, 2, none⟩ (.string t251)) g248 t252 t253) := ⟨by repeat (first | (with_reducible first | exact HI248.out | apply IsS46.alloc | apply IsS46.drewN | apply IsS46.drew | apply IsS46.set_0 | apply IsS46.set_1 | refine IsS46.far ?_ NB248_237.out _ | refine IsS46.far ?_ NB248_241.out _ | refine IsS46.far ?_ NB248_254.out _) | exact HI248.out)⟩
              have n4_ : Aside0 (Below w.heap.size w (((w30.setCell ⟨gb254, 0, none⟩ (.int .i64 t249)).setCell ⟨gb254, 1, none⟩ (.int .i64 t250)).setCell ⟨gb254, 2, none⟩ (.string t251))) := ⟨by repeat (first | (with_reducible first | exact HB.out | apply below_alloc | apply pw_below_drewN | apply below_drew1 | refine below_set ?_ (IsS46.ge HI248.out) | refine below_set ?_ GE237.out | refine below_set ?_ GE241.out | refine below_set ?_ GE254.out) | exact HB.out)⟩
              (try clear BK237)
              (try clear BK241)
              (try clear BK254)
              (try clear HI248)
              (try clear HB)
              generalize (((w30.setCell ⟨gb254, 0, none⟩ (.int .i64 t249)).setCell ⟨gb254, 1, none⟩ (.int .i64 t250)).setCell ⟨gb254, 2, none⟩ (.string t251)) = w50 at n0_ n1_ n2_ n3_ n4_ ⊢
              have BK237 := n0_
              have BK241 := n1_
              have BK254 := n2_
              have HI248 := n3_
              have HB := n4_
              clear n0_ n1_ n2_ n3_ n4_
              have n0_ := Aside0.mk (blk_drew BK237.out)
              have n1_ := Aside0.mk (blk_drew BK241.out)
              have n2_ := Aside0.mk (blk_drew BK254.out)
              have n3_ := Aside0.mk (IsS46.drew HI248.out)
              have n4_ := Aside0.mk (below_drew1 HB.out)
              clear BK237
              clear BK241
              clear BK254
              clear HI248
              clear HB
              have BK237 := n0_
              have BK241 := n1_
              have BK254 := n2_
              have HI248 := n3_
              have HB := n4_
              clear n0_ n1_ n2_ n3_ n4_
              refine start_ (n := 22) (S := fun w' => w'.cell? ⟨gb241, 0, none⟩ = some (.int .i64 t238) ∧ w'.cell? ⟨gb241, 1, none⟩ = some (.int .i64 t239) ∧ w'.cell? ⟨gb241, 2, none⟩ = some (.string x242002_3)) (ds := []) #[false, false, false, false, false, false, false, false, false, false, false, false, false, false, false, false, false, false, false, false, false, false] (by kernel_rfl) rfl rfl ⟨(blk_cell BK241.out 0).trans rfl, (blk_cell BK241.out 1).trans rfl, (blk_cell BK241.out 2).trans rfl⟩ (fun hHeld => ?_); refine with_tabW lodestonelaw23_ValuePuts.tab7 lodestonelaw23_ValuePuts.bits7 (fun HT_ HW_ => ?_)
              generalize w50.drew = w51 at BK237 BK241 BK254 HI248 HB hHeld ⊢
              refine one_ (i := 0) (N := some 28) #[true, false, false, false, false, false, false, false, false, false, false, false, false, false, false, false, false, false, false, false, false, false] rfl rfl (one_of HT_.out (by kernel_rfl)) (by decide) (fun K hK => ?_)
              refine goes_ Try.func6 (by kernel_rfl) rfl #[] (by rfl) rfl rfl (by (try simp only [List.map_toArray, List.map_cons, List.map_nil]); first | done | rfl | (simp only [List.length_drop, List.length_take]; rfl)) ?_
              with_reducible refine (lodestonelaw23_awake.calls kj3  true _ A35.out).mono ?_
              rintro e w52 ⟨rfl, hb⟩
              refine ⟨_, rfl, ?_⟩
              have n0_ := Aside0.mk (blk_below (g := gb237) (o := .cells #[.int .i64 a0_0, .int .i64 a0_1, .string a0_2] 23 (0, 0)) (by (with_reducible repeat (first | refine blk_drewN ?_ _ | refine blk_drew ?_ | refine blk_alloc ?_ _)); exact BK237.out) hb)
              have n1_ := Aside0.mk (blk_below (g := gb241) (o := .cells #[.int .i64 t238, .int .i64 t239, .string x242002_3] 23 (0, 0)) (by (with_reducible repeat (first | refine blk_drewN ?_ _ | refine blk_drew ?_ | refine blk_alloc ?_ _)); exact BK241.out) hb)
              have n2_ := Aside0.mk (IsS46.below (by repeat (first | (with_reducible first | exact HI248.out | apply IsS46.alloc | apply IsS46.drewN | apply IsS46.drew | apply IsS46.set_0 | apply IsS46.set_1 | refine IsS46.far ?_ NB248_237.out _ | refine IsS46.far ?_ NB248_241.out _ | refine IsS46.far ?_ NB248_254.out _) | exact HI248.out)) hb)
              have n3_ := Aside0.mk (blk_below (g := gb254) (o := .cells #[.int .i64 t249, .int .i64 t250, .string t251] 23 (0, 0)) (by (with_reducible repeat (first | refine blk_drewN ?_ _ | refine blk_drew ?_ | refine blk_alloc ?_ _)); exact BK254.out) hb)
              have n4_ := Aside0.mk (below_step (by repeat (first | (with_reducible first | exact HB.out | apply below_alloc | apply pw_below_drewN | apply below_drew1 | refine below_set ?_ (IsS46.ge HI248.out) | refine below_set ?_ GE237.out | refine below_set ?_ GE241.out | refine below_set ?_ GE254.out) | exact HB.out)) hb)
              clear BK237
              clear BK241
              clear HI248
              clear BK254
              clear HB
              have BK237 := n0_
              have BK241 := n1_
              have HI248 := n2_
              have BK254 := n3_
              have HB := n4_
              clear n0_ n1_ n2_ n3_ n4_
              (try clear hb)
              (try clear hb2)
              (try clear hk)
              (try clear hi)
              refine hK.out _ _ ⟨(blk_cell BK241.out 0).trans rfl, (blk_cell BK241.out 1).trans rfl, (blk_cell BK241.out 2).trans rfl⟩ (fun hHeld => ?_)
              clear hK K
              refine norm_ (a' := ?_) ?_ ?_
              rotate_left
              · show Act.put _ (some 28) _ = _
                simp only [Act.put, List.setIfInBounds_toArray, List.set_cons_zero, List.set_cons_succ, i64_w, i32_w]
                rfl
              refine pure_ (i := 1) (N := some 29) (v := ?_) (a' := ?_) #[true, true, false, false, false, false, false, false, false, false, false, false, false, false, false, false, false, false, false, false, false, false] rfl rfl (any_of HT_.out (by kernel_rfl)) (fun _ _ _ h => h) (Or.inl ⟨by rfl, ?_⟩) ?_ ?_
              rotate_left
              · intro w'
                go_simp
                with_reducible rfl
              rotate_left
              · simp only [Act.put, List.setIfInBounds_toArray, List.set_cons_zero, List.set_cons_succ, i64_w, i32_w]
                rfl
              refine pure_ (i := 2) (N := some 30) (v := ?_) (a' := ?_) #[true, true, true, false, false, false, false, false, false, false, false, false, false, false, false, false, false, false, false, false, false, false] rfl rfl (any_of HT_.out (by kernel_rfl)) (fun _ _ _ h => h) (Or.inl ⟨by rfl, ?_⟩) ?_ ?_
              rotate_left
              · intro w'
                go_simp
                with_reducible rfl
              rotate_left
              · simp only [Act.put, List.setIfInBounds_toArray, List.set_cons_zero, List.set_cons_succ, i64_w, i32_w]
                rfl
              refine pure_ (i := 3) (N := some 31) (v := ?_) (a' := ?_) #[true, true, true, true, false, false, false, false, false, false, false, false, false, false, false, false, false, false, false, false, false, false] rfl rfl (any_of HT_.out (by kernel_rfl)) (fun _ _ _ h => h) (Or.inl ⟨by rfl, ?_⟩) ?_ ?_
              rotate_left
              · intro w'
                go_simp
                with_reducible rfl
              rotate_left
              · simp only [Act.put, List.setIfInBounds_toArray, List.set_cons_zero, List.set_cons_succ, i64_w, i32_w]
                rfl
              refine take_ (i := 4) (N := some 32) (v := ?_) (a' := ?_) #[true, true, true, true, true, false, false, false, false, false, false, false, false, false, false, false, false, false, false, false, false, false] rfl rfl (take_ofW HT_.out HW_.out (by kernel_rfl)) (fun _ _ _ h => h) (Or.inl ⟨by rfl, ?_⟩) hHeld ?_ ?_
              rotate_left
              · rintro w' ⟨s0, s1, s2⟩
                go_simp
                with_reducible rfl
              rotate_left
              · simp only [Act.put, List.setIfInBounds_toArray, List.set_cons_zero, List.set_cons_succ, i64_w, i32_w]
                rfl
              refine one_ (i := 5) (N := some 33) #[true, true, true, true, true, true, false, false, false, false, false, false, false, false, false, false, false, false, false, false, false, false] rfl rfl (one_of HT_.out (by kernel_rfl)) (by decide) (fun K hK => ?_)
              refine goes_ Try.func15 (by kernel_rfl) rfl #[.agg #[.int .i64 t238, .int .i64 t239, .string x242002_3]] (by rfl) rfl rfl (by (try simp only [List.map_toArray, List.map_cons, List.map_nil]); first | done | rfl | (simp only [List.length_drop, List.length_take]; rfl)) ?_
              with_reducible refine (lodestoneref23_Put.calls kj3 t238 t239 x242002_3 t256 _ A37.out).mono ?_
              rintro e w53 ⟨rfl, hb⟩
              refine ⟨_, rfl, ?_⟩
              have n0_ := Aside0.mk (blk_below (g := gb237) (o := .cells #[.int .i64 a0_0, .int .i64 a0_1, .string a0_2] 23 (0, 0)) (by (with_reducible repeat (first | refine blk_drewN ?_ _ | refine blk_drew ?_ | refine blk_alloc ?_ _)); exact BK237.out) hb)
              have n1_ := Aside0.mk (blk_below (g := gb241) (o := .cells #[.int .i64 t238, .int .i64 t239, .string x242002_3] 23 (0, 0)) (by (with_reducible repeat (first | refine blk_drewN ?_ _ | refine blk_drew ?_ | refine blk_alloc ?_ _)); exact BK241.out) hb)
              have n2_ := Aside0.mk (IsS46.below (by repeat (first | (with_reducible first | exact HI248.out | apply IsS46.alloc | apply IsS46.drewN | apply IsS46.drew | apply IsS46.set_0 | apply IsS46.set_1 | refine IsS46.far ?_ NB248_237.out _ | refine IsS46.far ?_ NB248_241.out _ | refine IsS46.far ?_ NB248_254.out _) | exact HI248.out)) hb)
              have n3_ := Aside0.mk (blk_below (g := gb254) (o := .cells #[.int .i64 t249, .int .i64 t250, .string t251] 23 (0, 0)) (by (with_reducible repeat (first | refine blk_drewN ?_ _ | refine blk_drew ?_ | refine blk_alloc ?_ _)); exact BK254.out) hb)
              have n4_ := Aside0.mk (below_step (by repeat (first | (with_reducible first | exact HB.out | apply below_alloc | apply pw_below_drewN | apply below_drew1 | refine below_set ?_ (IsS46.ge HI248.out) | refine below_set ?_ GE237.out | refine below_set ?_ GE241.out | refine below_set ?_ GE254.out) | exact HB.out)) hb)
              clear BK237
              clear BK241
              clear HI248
              clear BK254
              clear HB
              have BK237 := n0_
              have BK241 := n1_
              have HI248 := n2_
              have BK254 := n3_
              have HB := n4_
              clear n0_ n1_ n2_ n3_ n4_
              (try clear hb)
              (try clear hb2)
              (try clear hk)
              (try clear hi)
              refine hK.out _ _ ⟨(blk_cell BK241.out 0).trans rfl, (blk_cell BK241.out 1).trans rfl, (blk_cell BK241.out 2).trans rfl⟩ (fun hHeld => ?_)
              clear hK K
              refine norm_ (a' := ?_) ?_ ?_
              rotate_left
              · show Act.put _ (some 33) _ = _
                simp only [Act.put, List.setIfInBounds_toArray, List.set_cons_zero, List.set_cons_succ, i64_w, i32_w]
                rfl
              refine pure_ (i := 6) (N := some 34) (v := ?_) (a' := ?_) #[true, true, true, true, true, true, true, false, false, false, false, false, false, false, false, false, false, false, false, false, false, false] rfl rfl (any_of HT_.out (by kernel_rfl)) (fun _ _ _ h => h) (Or.inl ⟨by rfl, ?_⟩) ?_ ?_
              rotate_left
              · intro w'
                go_simp
                with_reducible rfl
              rotate_left
              · simp only [Act.put, List.setIfInBounds_toArray, List.set_cons_zero, List.set_cons_succ, i64_w, i32_w]
                rfl
              refine pure_ (i := 7) (N := some 35) (v := ?_) (a' := ?_) #[true, true, true, true, true, true, true, true, false, false, false, false, false, false, false, false, false, false, false, false, false, false] rfl rfl (any_of HT_.out (by kernel_rfl)) (fun _ _ _ h => h) (Or.inl ⟨by rfl, ?_⟩) ?_ ?_
              rotate_left
              · intro w'
                go_simp
                with_reducible rfl
              rotate_left
              · simp only [Act.put, List.setIfInBounds_toArray, List.set_cons_zero, List.set_cons_succ, i64_w, i32_w]
                rfl
              refine pure_ (i := 8) (N := some 36) (v := ?_) (a' := ?_) #[true, true, true, true, true, true, true, true, true, false, false, false, false, false, false, false, false, false, false, false, false, false] rfl rfl (any_of HT_.out (by kernel_rfl)) (fun _ _ _ h => h) (Or.inl ⟨by rfl, ?_⟩) ?_ ?_
              rotate_left
              · intro w'
                go_simp
                with_reducible rfl
              rotate_left
              · simp only [Act.put, List.setIfInBounds_toArray, List.set_cons_zero, List.set_cons_succ, i64_w, i32_w]
                rfl
              refine take_ (i := 9) (N := some 37) (v := ?_) (a' := ?_) #[true, true, true, true, true, true, true, true, true, true, false, false, false, false, false, false, false, false, false, false, false, false] rfl rfl (take_ofW HT_.out HW_.out (by kernel_rfl)) (fun _ _ _ h => h) (Or.inl ⟨by rfl, ?_⟩) hHeld ?_ ?_
              rotate_left
              · rintro w' ⟨s0, s1, s2⟩
                go_simp
                with_reducible rfl
              rotate_left
              · simp only [Act.put, List.setIfInBounds_toArray, List.set_cons_zero, List.set_cons_succ, i64_w, i32_w]
                rfl
              refine take_ (i := 11) (N := some 39) (v := ?_) (a' := ?_) #[true, true, true, true, true, true, true, true, true, true, false, true, false, false, false, false, false, false, false, false, false, false] rfl rfl (take_ofW HT_.out HW_.out (by kernel_rfl)) (fun _ _ _ h => h) (Or.inl ⟨by rfl, ?_⟩) hHeld ?_ ?_
              rotate_left
              · rintro w' ⟨s0, s1, s2⟩
                go_simp
                with_reducible rfl
              rotate_left
              · simp only [Act.put, List.setIfInBounds_toArray, List.set_cons_zero, List.set_cons_succ, i64_w, i32_w]
                rfl
              refine one_ (i := 10) (N := some 38) #[true, true, true, true, true, true, true, true, true, true, true, true, false, false, false, false, false, false, false, false, false, false] rfl rfl (one_of HT_.out (by kernel_rfl)) (by decide) (fun K hK => ?_)
              refine goes_ Try.func9 (by kernel_rfl) rfl #[.agg #[.int .i64 t238, .int .i64 t239, .string x242002_3]] (by rfl) rfl rfl (by (try simp only [List.map_toArray, List.map_cons, List.map_nil]); first | done | rfl | (simp only [List.length_drop, List.length_take]; rfl)) ?_
              with_reducible refine (value_May.calls t238 t239 x242002_3 t257 _ A39.out).mono ?_
              rintro e w54 ⟨rfl, hb⟩
              refine ⟨_, rfl, ?_⟩
              have n0_ := Aside0.mk (blk_below (g := gb237) (o := .cells #[.int .i64 a0_0, .int .i64 a0_1, .string a0_2] 23 (0, 0)) (by (with_reducible repeat (first | refine blk_drewN ?_ _ | refine blk_drew ?_ | refine blk_alloc ?_ _)); exact BK237.out) hb)
              have n1_ := Aside0.mk (blk_below (g := gb241) (o := .cells #[.int .i64 t238, .int .i64 t239, .string x242002_3] 23 (0, 0)) (by (with_reducible repeat (first | refine blk_drewN ?_ _ | refine blk_drew ?_ | refine blk_alloc ?_ _)); exact BK241.out) hb)
              have n2_ := Aside0.mk (IsS46.below (by repeat (first | (with_reducible first | exact HI248.out | apply IsS46.alloc | apply IsS46.drewN | apply IsS46.drew | apply IsS46.set_0 | apply IsS46.set_1 | refine IsS46.far ?_ NB248_237.out _ | refine IsS46.far ?_ NB248_241.out _ | refine IsS46.far ?_ NB248_254.out _) | exact HI248.out)) hb)
              have n3_ := Aside0.mk (blk_below (g := gb254) (o := .cells #[.int .i64 t249, .int .i64 t250, .string t251] 23 (0, 0)) (by (with_reducible repeat (first | refine blk_drewN ?_ _ | refine blk_drew ?_ | refine blk_alloc ?_ _)); exact BK254.out) hb)
              have n4_ := Aside0.mk (below_step (by repeat (first | (with_reducible first | exact HB.out | apply below_alloc | apply pw_below_drewN | apply below_drew1 | refine below_set ?_ (IsS46.ge HI248.out) | refine below_set ?_ GE237.out | refine below_set ?_ GE241.out | refine below_set ?_ GE254.out) | exact HB.out)) hb)
              clear BK237
              clear BK241
              clear HI248
              clear BK254
              clear HB
              have BK237 := n0_
              have BK241 := n1_
              have HI248 := n2_
              have BK254 := n3_
              have HB := n4_
              clear n0_ n1_ n2_ n3_ n4_
              (try clear hb)
              (try clear hb2)
              (try clear hk)
              (try clear hi)
              refine hK.out _ _ ⟨(blk_cell BK241.out 0).trans rfl, (blk_cell BK241.out 1).trans rfl, (blk_cell BK241.out 2).trans rfl⟩ (fun hHeld => ?_)
              clear hK K
              refine norm_ (a' := ?_) ?_ ?_
              rotate_left
              · show Act.put _ (some 38) _ = _
                simp only [Act.put, List.setIfInBounds_toArray, List.set_cons_zero, List.set_cons_succ, i64_w, i32_w]
                rfl
              refine one_ (i := 12) (N := some 40) #[true, true, true, true, true, true, true, true, true, true, true, true, true, false, false, false, false, false, false, false, false, false] rfl rfl (one_of HT_.out (by kernel_rfl)) (by decide) (fun K hK => ?_)
              refine goes_ Try.func16 (by kernel_rfl) rfl #[.agg #[.int .i64 t238, .int .i64 t239, .string x242002_3]] (by rfl) rfl rfl (by (try simp only [List.map_toArray, List.map_cons, List.map_nil]); first | done | rfl | (simp only [List.length_drop, List.length_take]; rfl)) ?_
              with_reducible refine (lodestoneref23_May.calls t238 t239 x242002_3 t258 _ A40.out).mono ?_
              rintro e w55 ⟨rfl, hb⟩
              refine ⟨_, rfl, ?_⟩
              have n0_ := Aside0.mk (blk_below (g := gb237) (o := .cells #[.int .i64 a0_0, .int .i64 a0_1, .string a0_2] 23 (0, 0)) (by (with_reducible repeat (first | refine blk_drewN ?_ _ | refine blk_drew ?_ | refine blk_alloc ?_ _)); exact BK237.out) hb)
              have n1_ := Aside0.mk (blk_below (g := gb241) (o := .cells #[.int .i64 t238, .int .i64 t239, .string x242002_3] 23 (0, 0)) (by (with_reducible repeat (first | refine blk_drewN ?_ _ | refine blk_drew ?_ | refine blk_alloc ?_ _)); exact BK241.out) hb)
              have n2_ := Aside0.mk (IsS46.below (by repeat (first | (with_reducible first | exact HI248.out | apply IsS46.alloc | apply IsS46.drewN | apply IsS46.drew | apply IsS46.set_0 | apply IsS46.set_1 | refine IsS46.far ?_ NB248_237.out _ | refine IsS46.far ?_ NB248_241.out _ | refine IsS46.far ?_ NB248_254.out _) | exact HI248.out)) hb)
              have n3_ := Aside0.mk (blk_below (g := gb254) (o := .cells #[.int .i64 t249, .int .i64 t250, .string t251] 23 (0, 0)) (by (with_reducible repeat (first | refine blk_drewN ?_ _ | refine blk_drew ?_ | refine blk_alloc ?_ _)); exact BK254.out) hb)
              have n4_ := Aside0.mk (below_step (by repeat (first | (with_reducible first | exact HB.out | apply below_alloc | apply pw_below_drewN | apply below_drew1 | refine below_set ?_ (IsS46.ge HI248.out) | refine below_set ?_ GE237.out | refine below_set ?_ GE241.out | refine below_set ?_ GE254.out) | exact HB.out)) hb)
              clear BK237
              clear BK241
              clear HI248
              clear BK254
              clear HB
              have BK237 := n0_
              have BK241 := n1_
              have HI248 := n2_
              have BK254 := n3_
              have HB := n4_
              clear n0_ n1_ n2_ n3_ n4_
              (try clear hb)
              (try clear hb2)
              (try clear hk)
              (try clear hi)
              refine hK.out _ _ ⟨(blk_cell BK241.out 0).trans rfl, (blk_cell BK241.out 1).trans rfl, (blk_cell BK241.out 2).trans rfl⟩ (fun hHeld => ?_)
              clear hK K
              refine norm_ (a' := ?_) ?_ ?_
              rotate_left
              · show Act.put _ (some 40) _ = _
                simp only [Act.put, List.setIfInBounds_toArray, List.set_cons_zero, List.set_cons_succ, i64_w, i32_w]
                rfl
              refine pure_ (i := 13) (N := some 41) (v := ?_) (a' := ?_) #[true, true, true, true, true, true, true, true, true, true, true, true, true, true, false, false, false, false, false, false, false, false] rfl rfl (any_of HT_.out (by kernel_rfl)) (fun _ _ _ h => h) (Or.inl ⟨by rfl, ?_⟩) ?_ ?_
              rotate_left
              · intro w'
                go_simp
                with_reducible rfl
              rotate_left
              · simp only [Act.put, List.setIfInBounds_toArray, List.set_cons_zero, List.set_cons_succ, i64_w, i32_w]
                rfl
              refine pure_ (i := 14) (N := some 42) (v := ?_) (a' := ?_) #[true, true, true, true, true, true, true, true, true, true, true, true, true, true, true, false, false, false, false, false, false, false] rfl rfl (any_of HT_.out (by kernel_rfl)) (fun _ _ _ h => h) (Or.inl ⟨by rfl, ?_⟩) ?_ ?_
              rotate_left
              · intro w'
                go_simp
                with_reducible rfl
              rotate_left
              · simp only [Act.put, List.setIfInBounds_toArray, List.set_cons_zero, List.set_cons_succ, i64_w, i32_w]
                rfl
              refine pure_ (i := 15) (N := some 43) (v := ?_) (a' := ?_) #[true, true, true, true, true, true, true, true, true, true, true, true, true, true, true, true, false, false, false, false, false, false] rfl rfl (any_of HT_.out (by kernel_rfl)) (fun _ _ _ h => h) (Or.inl ⟨by rfl, ?_⟩) ?_ ?_
              rotate_left
              · intro w'
                go_simp
                with_reducible rfl
              rotate_left
              · simp only [Act.put, List.setIfInBounds_toArray, List.set_cons_zero, List.set_cons_succ, i64_w, i32_w]
                rfl
              refine take_ (i := 16) (N := some 44) (v := ?_) (a' := ?_) #[true, true, true, true, true, true, true, true, true, true, true, true, true, true, true, true, true, false, false, false, false, false] rfl rfl (take_ofW HT_.out HW_.out (by kernel_rfl)) (fun _ _ _ h => h) (Or.inl ⟨by rfl, ?_⟩) hHeld ?_ ?_
              rotate_left
              · rintro w' ⟨s0, s1, s2⟩
                go_simp
                with_reducible rfl
              rotate_left
              · simp only [Act.put, List.setIfInBounds_toArray, List.set_cons_zero, List.set_cons_succ, i64_w, i32_w]
                rfl
              refine take_ (i := 18) (N := some 46) (v := ?_) (a' := ?_) #[true, true, true, true, true, true, true, true, true, true, true, true, true, true, true, true, true, false, true, false, false, false] rfl rfl (take_ofW HT_.out HW_.out (by kernel_rfl)) (fun _ _ _ h => h) (Or.inl ⟨by rfl, ?_⟩) hHeld ?_ ?_
              rotate_left
              · rintro w' ⟨s0, s1, s2⟩
                go_simp
                with_reducible rfl
              rotate_left
              · simp only [Act.put, List.setIfInBounds_toArray, List.set_cons_zero, List.set_cons_succ, i64_w, i32_w]
                rfl
              refine one_ (i := 17) (N := some 45) #[true, true, true, true, true, true, true, true, true, true, true, true, true, true, true, true, true, true, true, false, false, false] rfl rfl (one_of HT_.out (by kernel_rfl)) (by decide) (fun K hK => ?_)
              refine goes_ Try.func10 (by kernel_rfl) rfl #[.agg #[.int .i64 t238, .int .i64 t239, .string x242002_3]] (by rfl) rfl rfl (by (try simp only [List.map_toArray, List.map_cons, List.map_nil]); first | done | rfl | (simp only [List.length_drop, List.length_take]; rfl)) ?_
              with_reducible refine (value_Words.calls t238 t239 x242002_3 t259 _ A48.out).mono ?_
              rintro e w56 ⟨rfl, hb⟩
              refine ⟨_, rfl, ?_⟩
              have n0_ := Aside0.mk (blk_below (g := gb237) (o := .cells #[.int .i64 a0_0, .int .i64 a0_1, .string a0_2] 23 (0, 0)) (by (with_reducible repeat (first | refine blk_drewN ?_ _ | refine blk_drew ?_ | refine blk_alloc ?_ _)); exact BK237.out) hb)
              have n1_ := Aside0.mk (blk_below (g := gb241) (o := .cells #[.int .i64 t238, .int .i64 t239, .string x242002_3] 23 (0, 0)) (by (with_reducible repeat (first | refine blk_drewN ?_ _ | refine blk_drew ?_ | refine blk_alloc ?_ _)); exact BK241.out) hb)
              have n2_ := Aside0.mk (IsS46.below (by repeat (first | (with_reducible first | exact HI248.out | apply IsS46.alloc | apply IsS46.drewN | apply IsS46.drew | apply IsS46.set_0 | apply IsS46.set_1 | refine IsS46.far ?_ NB248_237.out _ | refine IsS46.far ?_ NB248_241.out _ | refine IsS46.far ?_ NB248_254.out _) | exact HI248.out)) hb)
              have n3_ := Aside0.mk (blk_below (g := gb254) (o := .cells #[.int .i64 t249, .int .i64 t250, .string t251] 23 (0, 0)) (by (with_reducible repeat (first | refine blk_drewN ?_ _ | refine blk_drew ?_ | refine blk_alloc ?_ _)); exact BK254.out) hb)
              have n4_ := Aside0.mk (below_step (by repeat (first | (with_reducible first | exact HB.out | apply below_alloc | apply pw_below_drewN | apply below_drew1 | refine below_set ?_ (IsS46.ge HI248.out) | refine below_set ?_ GE237.out | refine below_set ?_ GE241.out | refine below_set ?_ GE254.out) | exact HB.out)) hb)
              clear BK237
              clear BK241
              clear HI248
              clear BK254
              clear HB
              have BK237 := n0_
              have BK241 := n1_
              have HI248 := n2_
              have BK254 := n3_
              have HB := n4_
              clear n0_ n1_ n2_ n3_ n4_
              (try clear hb)
              (try clear hb2)
              (try clear hk)
              (try clear hi)
              refine hK.out _ _ ⟨(blk_cell BK241.out 0).trans rfl, (blk_cell BK241.out 1).trans rfl, (blk_cell BK241.out 2).trans rfl⟩ (fun hHeld => ?_)
              clear hK K
              refine norm_ (a' := ?_) ?_ ?_
              rotate_left
              · show Act.put _ (some 45) _ = _
                simp only [Act.put, List.setIfInBounds_toArray, List.set_cons_zero, List.set_cons_succ, i64_w, i32_w]
                rfl
              refine one_ (i := 19) (N := some 47) #[true, true, true, true, true, true, true, true, true, true, true, true, true, true, true, true, true, true, true, true, false, false] rfl rfl (one_of HT_.out (by kernel_rfl)) (by decide) (fun K hK => ?_)
              refine goes_ Try.func17 (by kernel_rfl) rfl #[.agg #[.int .i64 t238, .int .i64 t239, .string x242002_3]] (by rfl) rfl rfl (by (try simp only [List.map_toArray, List.map_cons, List.map_nil]); first | done | rfl | (simp only [List.length_drop, List.length_take]; rfl)) ?_
              with_reducible refine (lodestoneref23_Words.calls t238 t239 x242002_3 t260 _ A49.out).mono ?_
              rintro e w57 ⟨rfl, hb⟩
              refine ⟨_, rfl, ?_⟩
              have n0_ := Aside0.mk (blk_below (g := gb237) (o := .cells #[.int .i64 a0_0, .int .i64 a0_1, .string a0_2] 23 (0, 0)) (by (with_reducible repeat (first | refine blk_drewN ?_ _ | refine blk_drew ?_ | refine blk_alloc ?_ _)); exact BK237.out) hb)
              have n1_ := Aside0.mk (blk_below (g := gb241) (o := .cells #[.int .i64 t238, .int .i64 t239, .string x242002_3] 23 (0, 0)) (by (with_reducible repeat (first | refine blk_drewN ?_ _ | refine blk_drew ?_ | refine blk_alloc ?_ _)); exact BK241.out) hb)
              have n2_ := Aside0.mk (IsS46.below (by repeat (first | (with_reducible first | exact HI248.out | apply IsS46.alloc | apply IsS46.drewN | apply IsS46.drew | apply IsS46.set_0 | apply IsS46.set_1 | refine IsS46.far ?_ NB248_237.out _ | refine IsS46.far ?_ NB248_241.out _ | refine IsS46.far ?_ NB248_254.out _) | exact HI248.out)) hb)
              have n3_ := Aside0.mk (blk_below (g := gb254) (o := .cells #[.int .i64 t249, .int .i64 t250, .string t251] 23 (0, 0)) (by (with_reducible repeat (first | refine blk_drewN ?_ _ | refine blk_drew ?_ | refine blk_alloc ?_ _)); exact BK254.out) hb)
              have n4_ := Aside0.mk (below_step (by repeat (first | (with_reducible first | exact HB.out | apply below_alloc | apply pw_below_drewN | apply below_drew1 | refine below_set ?_ (IsS46.ge HI248.out) | refine below_set ?_ GE237.out | refine below_set ?_ GE241.out | refine below_set ?_ GE254.out) | exact HB.out)) hb)
              clear BK237
              clear BK241
              clear HI248
              clear BK254
              clear HB
              have BK237 := n0_
              have BK241 := n1_
              have HI248 := n2_
              have BK254 := n3_
              have HB := n4_
              clear n0_ n1_ n2_ n3_ n4_
              (try clear hb)
              (try clear hb2)
              (try clear hk)
              (try clear hi)
              refine hK.out _ _ ⟨(blk_cell BK241.out 0).trans rfl, (blk_cell BK241.out 1).trans rfl, (blk_cell BK241.out 2).trans rfl⟩ (fun hHeld => ?_)
              clear hK K
              refine norm_ (a' := ?_) ?_ ?_
              rotate_left
              · show Act.put _ (some 47) _ = _
                simp only [Act.put, List.setIfInBounds_toArray, List.set_cons_zero, List.set_cons_succ, i64_w, i32_w]
                rfl
              refine pure_ (i := 20) (N := some 48) (v := ?_) (a' := ?_) #[true, true, true, true, true, true, true, true, true, true, true, true, true, true, true, true, true, true, true, true, true, false] rfl rfl (any_of HT_.out (by kernel_rfl)) (fun _ _ _ h => h) (Or.inl ⟨by rfl, ?_⟩) ?_ ?_
              rotate_left
              · intro w'
                go_simp
                with_reducible rfl
              rotate_left
              · simp only [Act.put, List.setIfInBounds_toArray, List.set_cons_zero, List.set_cons_succ, i64_w, i32_w]
                rfl
              refine pure_ (i := 21) (N := some 49) (v := ?_) (a' := ?_) #[true, true, true, true, true, true, true, true, true, true, true, true, true, true, true, true, true, true, true, true, true, true] rfl rfl (any_of HT_.out (by kernel_rfl)) (fun _ _ _ h => h) (Or.inl ⟨by rfl, ?_⟩) ?_ ?_
              rotate_left
              · intro w'
                go_simp
                with_reducible rfl
              rotate_left
              · simp only [Act.put, List.setIfInBounds_toArray, List.set_cons_zero, List.set_cons_succ, i64_w, i32_w]
                rfl
              refine done_ (done_of HT_.out (by kernel_rfl)) ?_
              try go_wp2
              go_meet
              case rel => exact ⟨_, ((t259 != t260)), (by first | rfl | (simp; done) | (simp [*]; done)), H', ⟨by have := HJ3.out; first | omega | exact Nat.le_refl _⟩, ⟨by (with_reducible repeat (first | refine blk_drewN ?_ _ | refine blk_drew ?_ | refine blk_alloc ?_ _)); exact BK237.out⟩, ⟨by (with_reducible repeat (first | refine blk_drewN ?_ _ | refine blk_drew ?_ | refine blk_alloc ?_ _)); exact BK241.out⟩, ⟨by (with_reducible repeat (first | refine blk_drewN ?_ _ | refine blk_drew ?_ | refine blk_alloc ?_ _)); exact BK254.out⟩, ⟨by repeat (first | (with_reducible first | exact HI248.out | apply IsS46.alloc | apply IsS46.drewN | apply IsS46.drew | apply IsS46.set_0 | apply IsS46.set_1 | refine IsS46.far ?_ NB248_237.out _ | refine IsS46.far ?_ NB248_241.out _ | refine IsS46.far ?_ NB248_254.out _) | exact HI248.out)⟩, ⟨by repeat (first | (with_reducible first | exact HB.out | apply below_alloc | apply pw_below_drewN | apply below_drew1 | refine below_set ?_ (IsS46.ge HI248.out) | refine below_set ?_ GE237.out | refine below_set ?_ GE241.out | refine below_set ?_ GE254.out) | exact HB.out)⟩⟩
          · rw [if_neg c38] at H
            have c38b0 : (t245.toList == t256.toList) = false := beq_eq_false_iff_ne.mpr c38
            have c38b1 : (t245.toList != t256.toList) = true := bne_iff_ne.mpr c38
            (first | rw [c38b0] | (simp only [i64_w, i32_w]; rw [c38b0]) | skip)
            have H' := Aside0.mk H
            clear H
            try go_wp2
            have n0_ : Aside0 ((((w30.setCell ⟨gb254, 0, none⟩ (.int .i64 t249)).setCell ⟨gb254, 1, none⟩ (.int .i64 t250)).setCell ⟨gb254, 2, none⟩ (.string t251)).heap[gb237]? = some (.cells #[.int .i64 a0_0, .int .i64 a0_1, .string a0_2] 23 (0, 0))) := ⟨by (with_reducible repeat (first | refine blk_drewN ?_ _ | refine blk_drew ?_ | refine blk_alloc ?_ _)); refine blk_far ?_ NB237_254.out _; (with_reducible repeat (first | refine blk_drewN ?_ _ | refine blk_drew ?_ | refine blk_alloc ?_ _)); refine blk_far ?_ NB237_254.out _; (with_reducible repeat (first | refine blk_drewN ?_ _ | refine blk_drew ?_ | refine blk_alloc ?_ _)); refine blk_far ?_ NB237_254.out _; (with_reducible repeat (first | refine blk_drewN ?_ _ | refine blk_drew ?_ | refine blk_alloc ?_ _)); exact BK237.out⟩
            have n1_ : Aside0 ((((w30.setCell ⟨gb254, 0, none⟩ (.int .i64 t249)).setCell ⟨gb254, 1, none⟩ (.int .i64 t250)).setCell ⟨gb254, 2, none⟩ (.string t251)).heap[gb241]? = some (.cells #[.int .i64 t238, .int .i64 t239, .string x242002_3] 23 (0, 0))) := ⟨by (with_reducible repeat (first | refine blk_drewN ?_ _ | refine blk_drew ?_ | refine blk_alloc ?_ _)); refine blk_far ?_ NB241_254.out _; (with_reducible repeat (first | refine blk_drewN ?_ _ | refine blk_drew ?_ | refine blk_alloc ?_ _)); refine blk_far ?_ NB241_254.out _; (with_reducible repeat (first | refine blk_drewN ?_ _ | refine blk_drew ?_ | refine blk_alloc ?_ _)); refine blk_far ?_ NB241_254.out _; (with_reducible repeat (first | refine blk_drewN ?_ _ | refine blk_drew ?_ | refine blk_alloc ?_ _)); exact BK241.out⟩
            have n2_ : Aside0 ((((w30.setCell ⟨gb254, 0, none⟩ (.int .i64 t249)).setCell ⟨gb254, 1, none⟩ (.int .i64 t250)).setCell ⟨gb254, 2, none⟩ (.string t251)).heap[gb254]? = some (.cells #[.int .i64 t249, .int .i64 t250, .string t251] 23 (0, 0))) := ⟨by (with_reducible repeat (first | refine blk_drewN ?_ _ | refine blk_drew ?_ | refine blk_alloc ?_ _)); refine blk_put (cs := #[.int .i64 t249, .int .i64 t250, .string (⟨#[]⟩ : ByteArray)]) ?_ 2 _ rfl; (with_reducible repeat (first | refine blk_drewN ?_ _ | refine blk_drew ?_ | refine blk_alloc ?_ _)); refine blk_put (cs := #[.int .i64 t249, .int .i64 0, .string (⟨#[]⟩ : ByteArray)]) ?_ 1 _ rfl; (with_reducible repeat (first | refine blk_drewN ?_ _ | refine blk_drew ?_ | refine blk_alloc ?_ _)); refine blk_put (cs := #[.int .i64 0, .int .i64 0, .string (⟨#[]⟩ : ByteArray)]) ?_ 0 _ rfl; (with_reducible repeat (first | refine blk_drewN ?_ _ | refine blk_drew ?_ | refine blk_alloc ?_ _)); exact BK254.out⟩
            have n3_ : Aside0 (IsS46 w (((w30.setCell ⟨gb254, 0, none⟩ (.int .i64 t249)).setCell ⟨gb254, 1, none⟩ (.int .i64 t250)).setCell ⟨gb254, 2, none⟩ (.string t251)) g248 t252 t253) := ⟨by repeat (first | (with_reducible first | exact HI248.out | apply IsS46.alloc | apply IsS46.drewN | apply IsS46.drew | apply IsS46.set_0 | apply IsS46.set_1 | refine IsS46.far ?_ NB248_237.out _ | refine IsS46.far ?_ NB248_241.out _ | refine IsS46.far ?_ NB248_254.out _) | exact HI248.out)⟩
            have n4_ : Aside0 (Below w.heap.size w (((w30.setCell ⟨gb254, 0, none⟩ (.int .i64 t249)).setCell ⟨gb254, 1, none⟩ (.int .i64 t250)).setCell ⟨gb254, 2, none⟩ (.string t251))) := ⟨by repeat (first | (with_reducible first | exact HB.out | apply below_alloc | apply pw_below_drewN | apply below_drew1 | refine below_set ?_ (IsS46.ge HI248.out) | refine below_set ?_ GE237.out | refine below_set ?_ GE241.out | refine below_set ?_ GE254.out) | exact HB.out)⟩
            (try clear BK237)
            (try clear BK241)
            (try clear BK254)
            (try clear HI248)
            (try clear HB)
            generalize (((w30.setCell ⟨gb254, 0, none⟩ (.int .i64 t249)).setCell ⟨gb254, 1, none⟩ (.int .i64 t250)).setCell ⟨gb254, 2, none⟩ (.string t251)) = w58 at n0_ n1_ n2_ n3_ n4_ ⊢
            have BK237 := n0_
            have BK241 := n1_
            have BK254 := n2_
            have HI248 := n3_
            have HB := n4_
            clear n0_ n1_ n2_ n3_ n4_
            have n0_ := Aside0.mk (blk_drew BK237.out)
            have n1_ := Aside0.mk (blk_drew BK241.out)
            have n2_ := Aside0.mk (blk_drew BK254.out)
            have n3_ := Aside0.mk (IsS46.drew HI248.out)
            have n4_ := Aside0.mk (below_drew1 HB.out)
            clear BK237
            clear BK241
            clear BK254
            clear HI248
            clear HB
            have BK237 := n0_
            have BK241 := n1_
            have BK254 := n2_
            have HI248 := n3_
            have HB := n4_
            clear n0_ n1_ n2_ n3_ n4_
            refine start_ (n := 22) (S := fun w' => w'.cell? ⟨gb241, 0, none⟩ = some (.int .i64 t238) ∧ w'.cell? ⟨gb241, 1, none⟩ = some (.int .i64 t239) ∧ w'.cell? ⟨gb241, 2, none⟩ = some (.string x242002_3)) (ds := []) #[false, false, false, false, false, false, false, false, false, false, false, false, false, false, false, false, false, false, false, false, false, false] (by kernel_rfl) rfl rfl ⟨(blk_cell BK241.out 0).trans rfl, (blk_cell BK241.out 1).trans rfl, (blk_cell BK241.out 2).trans rfl⟩ (fun hHeld => ?_); refine with_tabW lodestonelaw23_ValuePuts.tab7 lodestonelaw23_ValuePuts.bits7 (fun HT_ HW_ => ?_)
            generalize w58.drew = w59 at BK237 BK241 BK254 HI248 HB hHeld ⊢
            refine one_ (i := 0) (N := some 28) #[true, false, false, false, false, false, false, false, false, false, false, false, false, false, false, false, false, false, false, false, false, false] rfl rfl (one_of HT_.out (by kernel_rfl)) (by decide) (fun K hK => ?_)
            refine goes_ Try.func6 (by kernel_rfl) rfl #[] (by rfl) rfl rfl (by (try simp only [List.map_toArray, List.map_cons, List.map_nil]); first | done | rfl | (simp only [List.length_drop, List.length_take]; rfl)) ?_
            with_reducible refine (lodestonelaw23_awake.calls kj3  true _ A35.out).mono ?_
            rintro e w60 ⟨rfl, hb⟩
            refine ⟨_, rfl, ?_⟩
            have n0_ := Aside0.mk (blk_below (g := gb237) (o := .cells #[.int .i64 a0_0, .int .i64 a0_1, .string a0_2] 23 (0, 0)) (by (with_reducible repeat (first | refine blk_drewN ?_ _ | refine blk_drew ?_ | refine blk_alloc ?_ _)); exact BK237.out) hb)
            have n1_ := Aside0.mk (blk_below (g := gb241) (o := .cells #[.int .i64 t238, .int .i64 t239, .string x242002_3] 23 (0, 0)) (by (with_reducible repeat (first | refine blk_drewN ?_ _ | refine blk_drew ?_ | refine blk_alloc ?_ _)); exact BK241.out) hb)
            have n2_ := Aside0.mk (IsS46.below (by repeat (first | (with_reducible first | exact HI248.out | apply IsS46.alloc | apply IsS46.drewN | apply IsS46.drew | apply IsS46.set_0 | apply IsS46.set_1 | refine IsS46.far ?_ NB248_237.out _ | refine IsS46.far ?_ NB248_241.out _ | refine IsS46.far ?_ NB248_254.out _) | exact HI248.out)) hb)
            have n3_ := Aside0.mk (blk_below (g := gb254) (o := .cells #[.int .i64 t249, .int .i64 t250, .string t251] 23 (0, 0)) (by (with_reducible repeat (first | refine blk_drewN ?_ _ | refine blk_drew ?_ | refine blk_alloc ?_ _)); exact BK254.out) hb)
            have n4_ := Aside0.mk (below_step (by repeat (first | (with_reducible first | exact HB.out | apply below_alloc | apply pw_below_drewN | apply below_drew1 | refine below_set ?_ (IsS46.ge HI248.out) | refine below_set ?_ GE237.out | refine below_set ?_ GE241.out | refine below_set ?_ GE254.out) | exact HB.out)) hb)
            clear BK237
            clear BK241
            clear HI248
            clear BK254
            clear HB
            have BK237 := n0_
            have BK241 := n1_
            have HI248 := n2_
            have BK254 := n3_
            have HB := n4_
            clear n0_ n1_ n2_ n3_ n4_
            (try clear hb)
            (try clear hb2)
            (try clear hk)
            (try clear hi)
            refine hK.out _ _ ⟨(blk_cell BK241.out 0).trans rfl, (blk_cell BK241.out 1).trans rfl, (blk_cell BK241.out 2).trans rfl⟩ (fun hHeld => ?_)
            clear hK K
            refine norm_ (a' := ?_) ?_ ?_
            rotate_left
            · show Act.put _ (some 28) _ = _
              simp only [Act.put, List.setIfInBounds_toArray, List.set_cons_zero, List.set_cons_succ, i64_w, i32_w]
              rfl
            refine pure_ (i := 1) (N := some 29) (v := ?_) (a' := ?_) #[true, true, false, false, false, false, false, false, false, false, false, false, false, false, false, false, false, false, false, false, false, false] rfl rfl (any_of HT_.out (by kernel_rfl)) (fun _ _ _ h => h) (Or.inl ⟨by rfl, ?_⟩) ?_ ?_
            rotate_left
            · intro w'
              go_simp
              with_reducible rfl
            rotate_left
            · simp only [Act.put, List.setIfInBounds_toArray, List.set_cons_zero, List.set_cons_succ, i64_w, i32_w]
              rfl
            refine pure_ (i := 2) (N := some 30) (v := ?_) (a' := ?_) #[true, true, true, false, false, false, false, false, false, false, false, false, false, false, false, false, false, false, false, false, false, false] rfl rfl (any_of HT_.out (by kernel_rfl)) (fun _ _ _ h => h) (Or.inl ⟨by rfl, ?_⟩) ?_ ?_
            rotate_left
            · intro w'
              go_simp
              with_reducible rfl
            rotate_left
            · simp only [Act.put, List.setIfInBounds_toArray, List.set_cons_zero, List.set_cons_succ, i64_w, i32_w]
              rfl
            refine pure_ (i := 3) (N := some 31) (v := ?_) (a' := ?_) #[true, true, true, true, false, false, false, false, false, false, false, false, false, false, false, false, false, false, false, false, false, false] rfl rfl (any_of HT_.out (by kernel_rfl)) (fun _ _ _ h => h) (Or.inl ⟨by rfl, ?_⟩) ?_ ?_
            rotate_left
            · intro w'
              go_simp
              with_reducible rfl
            rotate_left
            · simp only [Act.put, List.setIfInBounds_toArray, List.set_cons_zero, List.set_cons_succ, i64_w, i32_w]
              rfl
            refine take_ (i := 4) (N := some 32) (v := ?_) (a' := ?_) #[true, true, true, true, true, false, false, false, false, false, false, false, false, false, false, false, false, false, false, false, false, false] rfl rfl (take_ofW HT_.out HW_.out (by kernel_rfl)) (fun _ _ _ h => h) (Or.inl ⟨by rfl, ?_⟩) hHeld ?_ ?_
            rotate_left
            · rintro w' ⟨s0, s1, s2⟩
              go_simp
              with_reducible rfl
            rotate_left
            · simp only [Act.put, List.setIfInBounds_toArray, List.set_cons_zero, List.set_cons_succ, i64_w, i32_w]
              rfl
            refine one_ (i := 5) (N := some 33) #[true, true, true, true, true, true, false, false, false, false, false, false, false, false, false, false, false, false, false, false, false, false] rfl rfl (one_of HT_.out (by kernel_rfl)) (by decide) (fun K hK => ?_)
            refine goes_ Try.func15 (by kernel_rfl) rfl #[.agg #[.int .i64 t238, .int .i64 t239, .string x242002_3]] (by rfl) rfl rfl (by (try simp only [List.map_toArray, List.map_cons, List.map_nil]); first | done | rfl | (simp only [List.length_drop, List.length_take]; rfl)) ?_
            with_reducible refine (lodestoneref23_Put.calls kj3 t238 t239 x242002_3 t256 _ A37.out).mono ?_
            rintro e w61 ⟨rfl, hb⟩
            refine ⟨_, rfl, ?_⟩
            have n0_ := Aside0.mk (blk_below (g := gb237) (o := .cells #[.int .i64 a0_0, .int .i64 a0_1, .string a0_2] 23 (0, 0)) (by (with_reducible repeat (first | refine blk_drewN ?_ _ | refine blk_drew ?_ | refine blk_alloc ?_ _)); exact BK237.out) hb)
            have n1_ := Aside0.mk (blk_below (g := gb241) (o := .cells #[.int .i64 t238, .int .i64 t239, .string x242002_3] 23 (0, 0)) (by (with_reducible repeat (first | refine blk_drewN ?_ _ | refine blk_drew ?_ | refine blk_alloc ?_ _)); exact BK241.out) hb)
            have n2_ := Aside0.mk (IsS46.below (by repeat (first | (with_reducible first | exact HI248.out | apply IsS46.alloc | apply IsS46.drewN | apply IsS46.drew | apply IsS46.set_0 | apply IsS46.set_1 | refine IsS46.far ?_ NB248_237.out _ | refine IsS46.far ?_ NB248_241.out _ | refine IsS46.far ?_ NB248_254.out _) | exact HI248.out)) hb)
            have n3_ := Aside0.mk (blk_below (g := gb254) (o := .cells #[.int .i64 t249, .int .i64 t250, .string t251] 23 (0, 0)) (by (with_reducible repeat (first | refine blk_drewN ?_ _ | refine blk_drew ?_ | refine blk_alloc ?_ _)); exact BK254.out) hb)
            have n4_ := Aside0.mk (below_step (by repeat (first | (with_reducible first | exact HB.out | apply below_alloc | apply pw_below_drewN | apply below_drew1 | refine below_set ?_ (IsS46.ge HI248.out) | refine below_set ?_ GE237.out | refine below_set ?_ GE241.out | refine below_set ?_ GE254.out) | exact HB.out)) hb)
            clear BK237
            clear BK241
            clear HI248
            clear BK254
            clear HB
            have BK237 := n0_
            have BK241 := n1_
            have HI248 := n2_
            have BK254 := n3_
            have HB := n4_
            clear n0_ n1_ n2_ n3_ n4_
            (try clear hb)
            (try clear hb2)
            (try clear hk)
            (try clear hi)
            refine hK.out _ _ ⟨(blk_cell BK241.out 0).trans rfl, (blk_cell BK241.out 1).trans rfl, (blk_cell BK241.out 2).trans rfl⟩ (fun hHeld => ?_)
            clear hK K
            refine norm_ (a' := ?_) ?_ ?_
            rotate_left
            · show Act.put _ (some 33) _ = _
              simp only [Act.put, List.setIfInBounds_toArray, List.set_cons_zero, List.set_cons_succ, i64_w, i32_w]
              rfl
            refine pure_ (i := 6) (N := some 34) (v := ?_) (a' := ?_) #[true, true, true, true, true, true, true, false, false, false, false, false, false, false, false, false, false, false, false, false, false, false] rfl rfl (any_of HT_.out (by kernel_rfl)) (fun _ _ _ h => h) (Or.inl ⟨by rfl, ?_⟩) ?_ ?_
            rotate_left
            · intro w'
              go_simp
              with_reducible rfl
            rotate_left
            · simp only [Act.put, List.setIfInBounds_toArray, List.set_cons_zero, List.set_cons_succ, i64_w, i32_w]
              rfl
            refine pure_ (i := 7) (N := some 35) (v := ?_) (a' := ?_) #[true, true, true, true, true, true, true, true, false, false, false, false, false, false, false, false, false, false, false, false, false, false] rfl rfl (any_of HT_.out (by kernel_rfl)) (fun _ _ _ h => h) (Or.inl ⟨by rfl, ?_⟩) ?_ ?_
            rotate_left
            · intro w'
              go_simp
              with_reducible rfl
            rotate_left
            · simp only [Act.put, List.setIfInBounds_toArray, List.set_cons_zero, List.set_cons_succ, i64_w, i32_w]
              rfl
            refine pure_ (i := 8) (N := some 36) (v := ?_) (a' := ?_) #[true, true, true, true, true, true, true, true, true, false, false, false, false, false, false, false, false, false, false, false, false, false] rfl rfl (any_of HT_.out (by kernel_rfl)) (fun _ _ _ h => h) (Or.inl ⟨by rfl, ?_⟩) ?_ ?_
            rotate_left
            · intro w'
              go_simp
              with_reducible rfl
            rotate_left
            · simp only [Act.put, List.setIfInBounds_toArray, List.set_cons_zero, List.set_cons_succ, i64_w, i32_w]
              rfl
            refine pure_ (i := 9) (N := some 37) (v := undef) (a' := ?_) #[true, true, true, true, true, true, true, true, true, true, false, false, false, false, false, false, false, false, false, false, false, false] rfl rfl (any_of HT_.out (by kernel_rfl)) (fun _ _ _ h => h) (Or.inr ⟨by rfl, rfl⟩) ?_ ?_
            rotate_left
            · simp only [Act.put, List.setIfInBounds_toArray, List.set_cons_zero, List.set_cons_succ, i64_w, i32_w]
              rfl
            refine pure_ (i := 10) (N := some 38) (v := undef) (a' := ?_) #[true, true, true, true, true, true, true, true, true, true, true, false, false, false, false, false, false, false, false, false, false, false] rfl rfl (any_of HT_.out (by kernel_rfl)) (fun _ _ _ h => h) (Or.inr ⟨by rfl, rfl⟩) ?_ ?_
            rotate_left
            · simp only [Act.put, List.setIfInBounds_toArray, List.set_cons_zero, List.set_cons_succ, i64_w, i32_w]
              rfl
            refine pure_ (i := 11) (N := some 39) (v := undef) (a' := ?_) #[true, true, true, true, true, true, true, true, true, true, true, true, false, false, false, false, false, false, false, false, false, false] rfl rfl (any_of HT_.out (by kernel_rfl)) (fun _ _ _ h => h) (Or.inr ⟨by rfl, rfl⟩) ?_ ?_
            rotate_left
            · simp only [Act.put, List.setIfInBounds_toArray, List.set_cons_zero, List.set_cons_succ, i64_w, i32_w]
              rfl
            refine pure_ (i := 12) (N := some 40) (v := undef) (a' := ?_) #[true, true, true, true, true, true, true, true, true, true, true, true, true, false, false, false, false, false, false, false, false, false] rfl rfl (any_of HT_.out (by kernel_rfl)) (fun _ _ _ h => h) (Or.inr ⟨by rfl, rfl⟩) ?_ ?_
            rotate_left
            · simp only [Act.put, List.setIfInBounds_toArray, List.set_cons_zero, List.set_cons_succ, i64_w, i32_w]
              rfl
            refine pure_ (i := 13) (N := some 41) (v := undef) (a' := ?_) #[true, true, true, true, true, true, true, true, true, true, true, true, true, true, false, false, false, false, false, false, false, false] rfl rfl (any_of HT_.out (by kernel_rfl)) (fun _ _ _ h => h) (Or.inr ⟨by rfl, rfl⟩) ?_ ?_
            rotate_left
            · simp only [Act.put, List.setIfInBounds_toArray, List.set_cons_zero, List.set_cons_succ, i64_w, i32_w]
              rfl
            refine pure_ (i := 14) (N := some 42) (v := ?_) (a' := ?_) #[true, true, true, true, true, true, true, true, true, true, true, true, true, true, true, false, false, false, false, false, false, false] rfl rfl (any_of HT_.out (by kernel_rfl)) (fun _ _ _ h => h) (Or.inl ⟨by rfl, ?_⟩) ?_ ?_
            rotate_left
            · intro w'
              go_simp
              with_reducible rfl
            rotate_left
            · simp only [Act.put, List.setIfInBounds_toArray, List.set_cons_zero, List.set_cons_succ, i64_w, i32_w]
              rfl
            refine pure_ (i := 15) (N := some 43) (v := ?_) (a' := ?_) #[true, true, true, true, true, true, true, true, true, true, true, true, true, true, true, true, false, false, false, false, false, false] rfl rfl (any_of HT_.out (by kernel_rfl)) (fun _ _ _ h => h) (Or.inl ⟨by rfl, ?_⟩) ?_ ?_
            rotate_left
            · intro w'
              go_simp
              with_reducible rfl
            rotate_left
            · simp only [Act.put, List.setIfInBounds_toArray, List.set_cons_zero, List.set_cons_succ, i64_w, i32_w]
              rfl
            refine pure_ (i := 16) (N := some 44) (v := undef) (a' := ?_) #[true, true, true, true, true, true, true, true, true, true, true, true, true, true, true, true, true, false, false, false, false, false] rfl rfl (any_of HT_.out (by kernel_rfl)) (fun _ _ _ h => h) (Or.inr ⟨by rfl, rfl⟩) ?_ ?_
            rotate_left
            · simp only [Act.put, List.setIfInBounds_toArray, List.set_cons_zero, List.set_cons_succ, i64_w, i32_w]
              rfl
            refine pure_ (i := 17) (N := some 45) (v := undef) (a' := ?_) #[true, true, true, true, true, true, true, true, true, true, true, true, true, true, true, true, true, true, false, false, false, false] rfl rfl (any_of HT_.out (by kernel_rfl)) (fun _ _ _ h => h) (Or.inr ⟨by rfl, rfl⟩) ?_ ?_
            rotate_left
            · simp only [Act.put, List.setIfInBounds_toArray, List.set_cons_zero, List.set_cons_succ, i64_w, i32_w]
              rfl
            refine pure_ (i := 18) (N := some 46) (v := undef) (a' := ?_) #[true, true, true, true, true, true, true, true, true, true, true, true, true, true, true, true, true, true, true, false, false, false] rfl rfl (any_of HT_.out (by kernel_rfl)) (fun _ _ _ h => h) (Or.inr ⟨by rfl, rfl⟩) ?_ ?_
            rotate_left
            · simp only [Act.put, List.setIfInBounds_toArray, List.set_cons_zero, List.set_cons_succ, i64_w, i32_w]
              rfl
            refine pure_ (i := 19) (N := some 47) (v := undef) (a' := ?_) #[true, true, true, true, true, true, true, true, true, true, true, true, true, true, true, true, true, true, true, true, false, false] rfl rfl (any_of HT_.out (by kernel_rfl)) (fun _ _ _ h => h) (Or.inr ⟨by rfl, rfl⟩) ?_ ?_
            rotate_left
            · simp only [Act.put, List.setIfInBounds_toArray, List.set_cons_zero, List.set_cons_succ, i64_w, i32_w]
              rfl
            refine pure_ (i := 20) (N := some 48) (v := undef) (a' := ?_) #[true, true, true, true, true, true, true, true, true, true, true, true, true, true, true, true, true, true, true, true, true, false] rfl rfl (any_of HT_.out (by kernel_rfl)) (fun _ _ _ h => h) (Or.inr ⟨by rfl, rfl⟩) ?_ ?_
            rotate_left
            · simp only [Act.put, List.setIfInBounds_toArray, List.set_cons_zero, List.set_cons_succ, i64_w, i32_w]
              rfl
            refine pure_ (i := 21) (N := some 49) (v := ?_) (a' := ?_) #[true, true, true, true, true, true, true, true, true, true, true, true, true, true, true, true, true, true, true, true, true, true] rfl rfl (any_of HT_.out (by kernel_rfl)) (fun _ _ _ h => h) (Or.inl ⟨by rfl, ?_⟩) ?_ ?_
            rotate_left
            · intro w'
              go_simp
              with_reducible rfl
            rotate_left
            · simp only [Act.put, List.setIfInBounds_toArray, List.set_cons_zero, List.set_cons_succ, i64_w, i32_w]
              rfl
            refine done_ (done_of HT_.out (by kernel_rfl)) ?_
            try go_wp2
            go_meet
            case rel => exact ⟨_, (true), (by first | rfl | (simp; done) | (simp [*]; done)), H', ⟨by have := HJ3.out; first | omega | exact Nat.le_refl _⟩, ⟨by (with_reducible repeat (first | refine blk_drewN ?_ _ | refine blk_drew ?_ | refine blk_alloc ?_ _)); exact BK237.out⟩, ⟨by (with_reducible repeat (first | refine blk_drewN ?_ _ | refine blk_drew ?_ | refine blk_alloc ?_ _)); exact BK241.out⟩, ⟨by (with_reducible repeat (first | refine blk_drewN ?_ _ | refine blk_drew ?_ | refine blk_alloc ?_ _)); exact BK254.out⟩, ⟨by repeat (first | (with_reducible first | exact HI248.out | apply IsS46.alloc | apply IsS46.drewN | apply IsS46.drew | apply IsS46.set_0 | apply IsS46.set_1 | refine IsS46.far ?_ NB248_237.out _ | refine IsS46.far ?_ NB248_241.out _ | refine IsS46.far ?_ NB248_254.out _) | exact HI248.out)⟩, ⟨by repeat (first | (with_reducible first | exact HB.out | apply below_alloc | apply pw_below_drewN | apply below_drew1 | refine below_set ?_ (IsS46.ge HI248.out) | refine below_set ?_ GE237.out | refine below_set ?_ GE241.out | refine below_set ?_ GE254.out) | exact HB.out)⟩⟩
        · replace c36 := Bool.eq_false_iff.mpr c36
          subst c36
          have H1 : (lodestonelaw23_ValuePuts.j1 kj3 t245 true t238 t239 x242002_3 t252 t253 t249 t250 t251) = some r := by rw [if_neg (show ¬ (false = true) by decide)] at H; exact H
          clear H
          have H := H1
          clear H1
          have H' := Aside0.mk H
          clear H
          try go_wp2
          have n0_ : Aside0 ((((w30.setCell ⟨gb254, 0, none⟩ (.int .i64 t249)).setCell ⟨gb254, 1, none⟩ (.int .i64 t250)).setCell ⟨gb254, 2, none⟩ (.string t251)).heap[gb237]? = some (.cells #[.int .i64 a0_0, .int .i64 a0_1, .string a0_2] 23 (0, 0))) := ⟨by (with_reducible repeat (first | refine blk_drewN ?_ _ | refine blk_drew ?_ | refine blk_alloc ?_ _)); refine blk_far ?_ NB237_254.out _; (with_reducible repeat (first | refine blk_drewN ?_ _ | refine blk_drew ?_ | refine blk_alloc ?_ _)); refine blk_far ?_ NB237_254.out _; (with_reducible repeat (first | refine blk_drewN ?_ _ | refine blk_drew ?_ | refine blk_alloc ?_ _)); refine blk_far ?_ NB237_254.out _; (with_reducible repeat (first | refine blk_drewN ?_ _ | refine blk_drew ?_ | refine blk_alloc ?_ _)); exact BK237.out⟩
          have n1_ : Aside0 ((((w30.setCell ⟨gb254, 0, none⟩ (.int .i64 t249)).setCell ⟨gb254, 1, none⟩ (.int .i64 t250)).setCell ⟨gb254, 2, none⟩ (.string t251)).heap[gb241]? = some (.cells #[.int .i64 t238, .int .i64 t239, .string x242002_3] 23 (0, 0))) := ⟨by (with_reducible repeat (first | refine blk_drewN ?_ _ | refine blk_drew ?_ | refine blk_alloc ?_ _)); refine blk_far ?_ NB241_254.out _; (with_reducible repeat (first | refine blk_drewN ?_ _ | refine blk_drew ?_ | refine blk_alloc ?_ _)); refine blk_far ?_ NB241_254.out _; (with_reducible repeat (first | refine blk_drewN ?_ _ | refine blk_drew ?_ | refine blk_alloc ?_ _)); refine blk_far ?_ NB241_254.out _; (with_reducible repeat (first | refine blk_drewN ?_ _ | refine blk_drew ?_ | refine blk_alloc ?_ _)); exact BK241.out⟩
          have n2_ : Aside0 ((((w30.setCell ⟨gb254, 0, none⟩ (.int .i64 t249)).setCell ⟨gb254, 1, none⟩ (.int .i64 t250)).setCell ⟨gb254, 2, none⟩ (.string t251)).heap[gb254]? = some (.cells #[.int .i64 t249, .int .i64 t250, .string t251] 23 (0, 0))) := ⟨by (with_reducible repeat (first | refine blk_drewN ?_ _ | refine blk_drew ?_ | refine blk_alloc ?_ _)); refine blk_put (cs := #[.int .i64 t249, .int .i64 t250, .string (⟨#[]⟩ : ByteArray)]) ?_ 2 _ rfl; (with_reducible repeat (first | refine blk_drewN ?_ _ | refine blk_drew ?_ | refine blk_alloc ?_ _)); refine blk_put (cs := #[.int .i64 t249, .int .i64 0, .string (⟨#[]⟩ : ByteArray)]) ?_ 1 _ rfl; (with_reducible repeat (first | refine blk_drewN ?_ _ | refine blk_drew ?_ | refine blk_alloc ?_ _)); refine blk_put (cs := #[.int .i64 0, .int .i64 0, .string (⟨#[]⟩ : ByteArray)]) ?_ 0 _ rfl; (with_reducible repeat (first | refine blk_drewN ?_ _ | refine blk_drew ?_ | refine blk_alloc ?_ _)); exact BK254.out⟩
          have n3_ : Aside0 (IsS46 w (((w30.setCell ⟨gb254, 0, none⟩ (.int .i64 t249)).setCell ⟨gb254, 1, none⟩ (.int .i64 t250)).setCell ⟨gb254, 2, none⟩ (.string t251)) g248 t252 t253) := ⟨by repeat (first | (with_reducible first | exact HI248.out | apply IsS46.alloc | apply IsS46.drewN | apply IsS46.drew | apply IsS46.set_0 | apply IsS46.set_1 | refine IsS46.far ?_ NB248_237.out _ | refine IsS46.far ?_ NB248_241.out _ | refine IsS46.far ?_ NB248_254.out _) | exact HI248.out)⟩
          have n4_ : Aside0 (Below w.heap.size w (((w30.setCell ⟨gb254, 0, none⟩ (.int .i64 t249)).setCell ⟨gb254, 1, none⟩ (.int .i64 t250)).setCell ⟨gb254, 2, none⟩ (.string t251))) := ⟨by repeat (first | (with_reducible first | exact HB.out | apply below_alloc | apply pw_below_drewN | apply below_drew1 | refine below_set ?_ (IsS46.ge HI248.out) | refine below_set ?_ GE237.out | refine below_set ?_ GE241.out | refine below_set ?_ GE254.out) | exact HB.out)⟩
          (try clear BK237)
          (try clear BK241)
          (try clear BK254)
          (try clear HI248)
          (try clear HB)
          generalize (((w30.setCell ⟨gb254, 0, none⟩ (.int .i64 t249)).setCell ⟨gb254, 1, none⟩ (.int .i64 t250)).setCell ⟨gb254, 2, none⟩ (.string t251)) = w62 at n0_ n1_ n2_ n3_ n4_ ⊢
          have BK237 := n0_
          have BK241 := n1_
          have BK254 := n2_
          have HI248 := n3_
          have HB := n4_
          clear n0_ n1_ n2_ n3_ n4_
          have n0_ := Aside0.mk (blk_drew BK237.out)
          have n1_ := Aside0.mk (blk_drew BK241.out)
          have n2_ := Aside0.mk (blk_drew BK254.out)
          have n3_ := Aside0.mk (IsS46.drew HI248.out)
          have n4_ := Aside0.mk (below_drew1 HB.out)
          clear BK237
          clear BK241
          clear BK254
          clear HI248
          clear HB
          have BK237 := n0_
          have BK241 := n1_
          have BK254 := n2_
          have HI248 := n3_
          have HB := n4_
          clear n0_ n1_ n2_ n3_ n4_
          refine start_ (n := 22) (S := fun w' => True) (ds := []) #[false, false, false, false, false, false, false, false, false, false, false, false, false, false, false, false, false, false, false, false, false, false] (by kernel_rfl) rfl rfl trivial (fun hHeld => ?_); refine with_tabW lodestonelaw23_ValuePuts.tab7 lodestonelaw23_ValuePuts.bits7 (fun HT_ HW_ => ?_)
          generalize w62.drew = w63 at BK237 BK241 BK254 HI248 HB hHeld ⊢
          refine one_ (i := 0) (N := some 28) #[true, false, false, false, false, false, false, false, false, false, false, false, false, false, false, false, false, false, false, false, false, false] rfl rfl (one_of HT_.out (by kernel_rfl)) (by decide) (fun K hK => ?_)
          refine goes_ Try.func6 (by kernel_rfl) rfl #[] (by rfl) rfl rfl (by (try simp only [List.map_toArray, List.map_cons, List.map_nil]); first | done | rfl | (simp only [List.length_drop, List.length_take]; rfl)) ?_
          with_reducible refine (lodestonelaw23_awake.calls kj3  false _ A35.out).mono ?_
          rintro e w64 ⟨rfl, hb⟩
          refine ⟨_, rfl, ?_⟩
          have n0_ := Aside0.mk (blk_below (g := gb237) (o := .cells #[.int .i64 a0_0, .int .i64 a0_1, .string a0_2] 23 (0, 0)) (by (with_reducible repeat (first | refine blk_drewN ?_ _ | refine blk_drew ?_ | refine blk_alloc ?_ _)); exact BK237.out) hb)
          have n1_ := Aside0.mk (blk_below (g := gb241) (o := .cells #[.int .i64 t238, .int .i64 t239, .string x242002_3] 23 (0, 0)) (by (with_reducible repeat (first | refine blk_drewN ?_ _ | refine blk_drew ?_ | refine blk_alloc ?_ _)); exact BK241.out) hb)
          have n2_ := Aside0.mk (IsS46.below (by repeat (first | (with_reducible first | exact HI248.out | apply IsS46.alloc | apply IsS46.drewN | apply IsS46.drew | apply IsS46.set_0 | apply IsS46.set_1 | refine IsS46.far ?_ NB248_237.out _ | refine IsS46.far ?_ NB248_241.out _ | refine IsS46.far ?_ NB248_254.out _) | exact HI248.out)) hb)
          have n3_ := Aside0.mk (blk_below (g := gb254) (o := .cells #[.int .i64 t249, .int .i64 t250, .string t251] 23 (0, 0)) (by (with_reducible repeat (first | refine blk_drewN ?_ _ | refine blk_drew ?_ | refine blk_alloc ?_ _)); exact BK254.out) hb)
          have n4_ := Aside0.mk (below_step (by repeat (first | (with_reducible first | exact HB.out | apply below_alloc | apply pw_below_drewN | apply below_drew1 | refine below_set ?_ (IsS46.ge HI248.out) | refine below_set ?_ GE237.out | refine below_set ?_ GE241.out | refine below_set ?_ GE254.out) | exact HB.out)) hb)
          clear BK237
          clear BK241
          clear HI248
          clear BK254
          clear HB
          have BK237 := n0_
          have BK241 := n1_
          have HI248 := n2_
          have BK254 := n3_
          have HB := n4_
          clear n0_ n1_ n2_ n3_ n4_
          (try clear hb)
          (try clear hb2)
          (try clear hk)
          (try clear hi)
          refine hK.out _ _ trivial (fun hHeld => ?_)
          clear hK K
          refine norm_ (a' := ?_) ?_ ?_
          rotate_left
          · show Act.put _ (some 28) _ = _
            simp only [Act.put, List.setIfInBounds_toArray, List.set_cons_zero, List.set_cons_succ, i64_w, i32_w]
            rfl
          refine pure_ (i := 1) (N := some 29) (v := ?_) (a' := ?_) #[true, true, false, false, false, false, false, false, false, false, false, false, false, false, false, false, false, false, false, false, false, false] rfl rfl (any_of HT_.out (by kernel_rfl)) (fun _ _ _ h => h) (Or.inl ⟨by rfl, ?_⟩) ?_ ?_
          rotate_left
          · intro w'
            go_simp
            with_reducible rfl
          rotate_left
          · simp only [Act.put, List.setIfInBounds_toArray, List.set_cons_zero, List.set_cons_succ, i64_w, i32_w]
            rfl
          refine pure_ (i := 2) (N := some 30) (v := ?_) (a' := ?_) #[true, true, true, false, false, false, false, false, false, false, false, false, false, false, false, false, false, false, false, false, false, false] rfl rfl (any_of HT_.out (by kernel_rfl)) (fun _ _ _ h => h) (Or.inl ⟨by rfl, ?_⟩) ?_ ?_
          rotate_left
          · intro w'
            go_simp
            with_reducible rfl
          rotate_left
          · simp only [Act.put, List.setIfInBounds_toArray, List.set_cons_zero, List.set_cons_succ, i64_w, i32_w]
            rfl
          refine pure_ (i := 3) (N := some 31) (v := undef) (a' := ?_) #[true, true, true, true, false, false, false, false, false, false, false, false, false, false, false, false, false, false, false, false, false, false] rfl rfl (any_of HT_.out (by kernel_rfl)) (fun _ _ _ h => h) (Or.inr ⟨by rfl, rfl⟩) ?_ ?_
          rotate_left
          · simp only [Act.put, List.setIfInBounds_toArray, List.set_cons_zero, List.set_cons_succ, i64_w, i32_w]
            rfl
          refine pure_ (i := 4) (N := some 32) (v := undef) (a' := ?_) #[true, true, true, true, true, false, false, false, false, false, false, false, false, false, false, false, false, false, false, false, false, false] rfl rfl (any_of HT_.out (by kernel_rfl)) (fun _ _ _ h => h) (Or.inr ⟨by rfl, rfl⟩) ?_ ?_
          rotate_left
          · simp only [Act.put, List.setIfInBounds_toArray, List.set_cons_zero, List.set_cons_succ, i64_w, i32_w]
            rfl
          refine pure_ (i := 5) (N := some 33) (v := undef) (a' := ?_) #[true, true, true, true, true, true, false, false, false, false, false, false, false, false, false, false, false, false, false, false, false, false] rfl rfl (any_of HT_.out (by kernel_rfl)) (fun _ _ _ h => h) (Or.inr ⟨by rfl, rfl⟩) ?_ ?_
          rotate_left
          · simp only [Act.put, List.setIfInBounds_toArray, List.set_cons_zero, List.set_cons_succ, i64_w, i32_w]
            rfl
          refine pure_ (i := 6) (N := some 34) (v := undef) (a' := ?_) #[true, true, true, true, true, true, true, false, false, false, false, false, false, false, false, false, false, false, false, false, false, false] rfl rfl (any_of HT_.out (by kernel_rfl)) (fun _ _ _ h => h) (Or.inr ⟨by rfl, rfl⟩) ?_ ?_
          rotate_left
          · simp only [Act.put, List.setIfInBounds_toArray, List.set_cons_zero, List.set_cons_succ, i64_w, i32_w]
            rfl
          refine pure_ (i := 7) (N := some 35) (v := ?_) (a' := ?_) #[true, true, true, true, true, true, true, true, false, false, false, false, false, false, false, false, false, false, false, false, false, false] rfl rfl (any_of HT_.out (by kernel_rfl)) (fun _ _ _ h => h) (Or.inl ⟨by rfl, ?_⟩) ?_ ?_
          rotate_left
          · intro w'
            go_simp
            with_reducible rfl
          rotate_left
          · simp only [Act.put, List.setIfInBounds_toArray, List.set_cons_zero, List.set_cons_succ, i64_w, i32_w]
            rfl
          refine pure_ (i := 8) (N := some 36) (v := ?_) (a' := ?_) #[true, true, true, true, true, true, true, true, true, false, false, false, false, false, false, false, false, false, false, false, false, false] rfl rfl (any_of HT_.out (by kernel_rfl)) (fun _ _ _ h => h) (Or.inl ⟨by rfl, ?_⟩) ?_ ?_
          rotate_left
          · intro w'
            go_simp
            with_reducible rfl
          rotate_left
          · simp only [Act.put, List.setIfInBounds_toArray, List.set_cons_zero, List.set_cons_succ, i64_w, i32_w]
            rfl
          refine pure_ (i := 9) (N := some 37) (v := undef) (a' := ?_) #[true, true, true, true, true, true, true, true, true, true, false, false, false, false, false, false, false, false, false, false, false, false] rfl rfl (any_of HT_.out (by kernel_rfl)) (fun _ _ _ h => h) (Or.inr ⟨by rfl, rfl⟩) ?_ ?_
          rotate_left
          · simp only [Act.put, List.setIfInBounds_toArray, List.set_cons_zero, List.set_cons_succ, i64_w, i32_w]
            rfl
          refine pure_ (i := 10) (N := some 38) (v := undef) (a' := ?_) #[true, true, true, true, true, true, true, true, true, true, true, false, false, false, false, false, false, false, false, false, false, false] rfl rfl (any_of HT_.out (by kernel_rfl)) (fun _ _ _ h => h) (Or.inr ⟨by rfl, rfl⟩) ?_ ?_
          rotate_left
          · simp only [Act.put, List.setIfInBounds_toArray, List.set_cons_zero, List.set_cons_succ, i64_w, i32_w]
            rfl
          refine pure_ (i := 11) (N := some 39) (v := undef) (a' := ?_) #[true, true, true, true, true, true, true, true, true, true, true, true, false, false, false, false, false, false, false, false, false, false] rfl rfl (any_of HT_.out (by kernel_rfl)) (fun _ _ _ h => h) (Or.inr ⟨by rfl, rfl⟩) ?_ ?_
          rotate_left
          · simp only [Act.put, List.setIfInBounds_toArray, List.set_cons_zero, List.set_cons_succ, i64_w, i32_w]
            rfl
          refine pure_ (i := 12) (N := some 40) (v := undef) (a' := ?_) #[true, true, true, true, true, true, true, true, true, true, true, true, true, false, false, false, false, false, false, false, false, false] rfl rfl (any_of HT_.out (by kernel_rfl)) (fun _ _ _ h => h) (Or.inr ⟨by rfl, rfl⟩) ?_ ?_
          rotate_left
          · simp only [Act.put, List.setIfInBounds_toArray, List.set_cons_zero, List.set_cons_succ, i64_w, i32_w]
            rfl
          refine pure_ (i := 13) (N := some 41) (v := undef) (a' := ?_) #[true, true, true, true, true, true, true, true, true, true, true, true, true, true, false, false, false, false, false, false, false, false] rfl rfl (any_of HT_.out (by kernel_rfl)) (fun _ _ _ h => h) (Or.inr ⟨by rfl, rfl⟩) ?_ ?_
          rotate_left
          · simp only [Act.put, List.setIfInBounds_toArray, List.set_cons_zero, List.set_cons_succ, i64_w, i32_w]
            rfl
          refine pure_ (i := 14) (N := some 42) (v := ?_) (a' := ?_) #[true, true, true, true, true, true, true, true, true, true, true, true, true, true, true, false, false, false, false, false, false, false] rfl rfl (any_of HT_.out (by kernel_rfl)) (fun _ _ _ h => h) (Or.inl ⟨by rfl, ?_⟩) ?_ ?_
          rotate_left
          · intro w'
            go_simp
            with_reducible rfl
          rotate_left
          · simp only [Act.put, List.setIfInBounds_toArray, List.set_cons_zero, List.set_cons_succ, i64_w, i32_w]
            rfl
          refine pure_ (i := 15) (N := some 43) (v := ?_) (a' := ?_) #[true, true, true, true, true, true, true, true, true, true, true, true, true, true, true, true, false, false, false, false, false, false] rfl rfl (any_of HT_.out (by kernel_rfl)) (fun _ _ _ h => h) (Or.inl ⟨by rfl, ?_⟩) ?_ ?_
          rotate_left
          · intro w'
            go_simp
            with_reducible rfl
          rotate_left
          · simp only [Act.put, List.setIfInBounds_toArray, List.set_cons_zero, List.set_cons_succ, i64_w, i32_w]
            rfl
          refine pure_ (i := 16) (N := some 44) (v := undef) (a' := ?_) #[true, true, true, true, true, true, true, true, true, true, true, true, true, true, true, true, true, false, false, false, false, false] rfl rfl (any_of HT_.out (by kernel_rfl)) (fun _ _ _ h => h) (Or.inr ⟨by rfl, rfl⟩) ?_ ?_
          rotate_left
          · simp only [Act.put, List.setIfInBounds_toArray, List.set_cons_zero, List.set_cons_succ, i64_w, i32_w]
            rfl
          refine pure_ (i := 17) (N := some 45) (v := undef) (a' := ?_) #[true, true, true, true, true, true, true, true, true, true, true, true, true, true, true, true, true, true, false, false, false, false] rfl rfl (any_of HT_.out (by kernel_rfl)) (fun _ _ _ h => h) (Or.inr ⟨by rfl, rfl⟩) ?_ ?_
          rotate_left
          · simp only [Act.put, List.setIfInBounds_toArray, List.set_cons_zero, List.set_cons_succ, i64_w, i32_w]
            rfl
          refine pure_ (i := 18) (N := some 46) (v := undef) (a' := ?_) #[true, true, true, true, true, true, true, true, true, true, true, true, true, true, true, true, true, true, true, false, false, false] rfl rfl (any_of HT_.out (by kernel_rfl)) (fun _ _ _ h => h) (Or.inr ⟨by rfl, rfl⟩) ?_ ?_
          rotate_left
          · simp only [Act.put, List.setIfInBounds_toArray, List.set_cons_zero, List.set_cons_succ, i64_w, i32_w]
            rfl
          refine pure_ (i := 19) (N := some 47) (v := undef) (a' := ?_) #[true, true, true, true, true, true, true, true, true, true, true, true, true, true, true, true, true, true, true, true, false, false] rfl rfl (any_of HT_.out (by kernel_rfl)) (fun _ _ _ h => h) (Or.inr ⟨by rfl, rfl⟩) ?_ ?_
          rotate_left
          · simp only [Act.put, List.setIfInBounds_toArray, List.set_cons_zero, List.set_cons_succ, i64_w, i32_w]
            rfl
          refine pure_ (i := 20) (N := some 48) (v := undef) (a' := ?_) #[true, true, true, true, true, true, true, true, true, true, true, true, true, true, true, true, true, true, true, true, true, false] rfl rfl (any_of HT_.out (by kernel_rfl)) (fun _ _ _ h => h) (Or.inr ⟨by rfl, rfl⟩) ?_ ?_
          rotate_left
          · simp only [Act.put, List.setIfInBounds_toArray, List.set_cons_zero, List.set_cons_succ, i64_w, i32_w]
            rfl
          refine pure_ (i := 21) (N := some 49) (v := ?_) (a' := ?_) #[true, true, true, true, true, true, true, true, true, true, true, true, true, true, true, true, true, true, true, true, true, true] rfl rfl (any_of HT_.out (by kernel_rfl)) (fun _ _ _ h => h) (Or.inl ⟨by rfl, ?_⟩) ?_ ?_
          rotate_left
          · intro w'
            go_simp
            with_reducible rfl
          rotate_left
          · simp only [Act.put, List.setIfInBounds_toArray, List.set_cons_zero, List.set_cons_succ, i64_w, i32_w]
            rfl
          refine done_ (done_of HT_.out (by kernel_rfl)) ?_
          try go_wp2
          go_meet
          case rel => exact ⟨_, (true), (by first | rfl | (simp; done) | (simp [*]; done)), H', ⟨by have := HJ3.out; first | omega | exact Nat.le_refl _⟩, ⟨by (with_reducible repeat (first | refine blk_drewN ?_ _ | refine blk_drew ?_ | refine blk_alloc ?_ _)); exact BK237.out⟩, ⟨by (with_reducible repeat (first | refine blk_drewN ?_ _ | refine blk_drew ?_ | refine blk_alloc ?_ _)); exact BK241.out⟩, ⟨by (with_reducible repeat (first | refine blk_drewN ?_ _ | refine blk_drew ?_ | refine blk_alloc ?_ _)); exact BK254.out⟩, ⟨by repeat (first | (with_reducible first | exact HI248.out | apply IsS46.alloc | apply IsS46.drewN | apply IsS46.drew | apply IsS46.set_0 | apply IsS46.set_1 | refine IsS46.far ?_ NB248_237.out _ | refine IsS46.far ?_ NB248_241.out _ | refine IsS46.far ?_ NB248_254.out _) | exact HI248.out)⟩, ⟨by repeat (first | (with_reducible first | exact HB.out | apply below_alloc | apply pw_below_drewN | apply below_drew1 | refine below_set ?_ (IsS46.ge HI248.out) | refine below_set ?_ GE237.out | refine below_set ?_ GE241.out | refine below_set ?_ GE254.out) | exact HB.out)⟩⟩
      case rest =>
        clear HC24
        try clear c1
        try clear p2
        try clear c3
        try clear c6
        try clear c10
        try clear c15
        try clear c16
        try clear c17
        try clear c36
        try clear c38
        try clear c38b0
        try clear c38b1
        obtain ⟨kq, x49_23, rfl, HA, HJ23, BK237, BK241, BK254, HI248, HB⟩ := hcut
        cases kq with
        | zero => exact absurd HA.out (by simp [lodestonelaw23_ValuePuts.j1])
        | succ kj23 =>
          have H := HA.out
          clear HA
          simp only [lodestonelaw23_ValuePuts.j1] at H
          by_cases c65 : x49_23 = true
          · subst c65
            have H1 : (some false) = some r := by rw [if_pos rfl] at H; exact H
            clear H
            have H := H1
            clear H1
            exact absurd (H.trans (congrArg some HR_.out)) (by simp)
          · replace c65 := Bool.eq_false_iff.mpr c65
            subst c65
            have H1 : (if t245.toList = ([] : List UInt8) then (if (t249 == 0 && (t250 == 0 && (t251.toList == ([] : List UInt8)))) = true then (some true) else ((code_Reader_End.f t252 t253).bind fun bt261 => (if bt261.1 = 0 then (if (t249 == t238 && (t250 == t239 && (t251.toList == x242002_3.toList))) = true then ((value_Same.f t238 t239 x242002_3 t249 t250 t251).bind fun t264 => (some t264)) else (some false)) else (some false)))) else ((code_Reader_End.f t252 t253).bind fun bt265 => (if bt265.1 = 0 then (if (t249 == t238 && (t250 == t239 && (t251.toList == x242002_3.toList))) = true then ((value_Same.f t238 t239 x242002_3 t249 t250 t251).bind fun t268 => (some t268)) else (some false)) else (some false)))) = some r := by rw [if_neg (show ¬ (false = true) by decide)] at H; exact H
            clear H
            have H := H1
            clear H1
            by_cases c66 : t245.toList = ([] : List UInt8)
            · rw [if_pos c66] at H
              have c66b0 : (t245.toList == ([] : List UInt8)) = true := beq_iff_eq.mpr c66
              have c66b1 : (t245.toList != ([] : List UInt8)) = false := bne_eq_false_iff_eq.mpr c66
              clear c66
              by_cases c67 : (t249 == 0 && (t250 == 0 && (t251.toList == ([] : List UInt8)))) = true
              · rw [if_pos c67] at H
                have c67s := c67
                simp only [Bool.and_eq_true, beq_iff_eq] at c67s
                obtain ⟨c67s0, c67s1, c67s2⟩ := c67s
                have c67b0 : (t249 == 0 && (t250 == 0 && (t251.toList == ([] : List UInt8)))) = true := c67
                (try (have c67b1 : decide (t249 = 0 && (t250 == 0 && (t251.toList == ([] : List UInt8)))) = true := by simpa using c67))
                (try (have c67b2 : (t249 == 0 && (t250 == 0 && (t251.toList == ([] : List UInt8)))) = true := by simpa using c67))
                clear c67
                obtain rfl := Option.some.inj H
                have hnb68 := NB254_237.out
                have hnc68 := NB237_254.out
                have hnb69 := NB254_241.out
                have hnc69 := NB241_254.out
                have hnb70 := NB254_248.out
                have hnc70 := NB248_254.out
                have hcz71_0 : wc.cell? ⟨gb254, 0, none⟩ = some (.int .i64 t249) := (blk_cell BK254.out 0).trans rfl
                have hcz71_1 : wc.cell? ⟨gb254, 1, none⟩ = some (.int .i64 t250) := (blk_cell BK254.out 1).trans rfl
                have hcz71_2 : wc.cell? ⟨gb254, 2, none⟩ = some (.string t251) := (blk_cell BK254.out 2).trans rfl
                have hfz71_0 := blk_frozen BK254.out 0
                have hfz71_1 := blk_frozen BK254.out 1
                have hfz71_2 := blk_frozen BK254.out 2
                go_wp2
                go_ret
                exact ⟨by first | rfl | (simp [errW_none, errW_some] <;> rfl) | (simp [*, errW_none, errW_some] <;> rfl), by repeat (first | (with_reducible first | exact HB.out | apply below_alloc | apply pw_below_drewN | apply below_drew1 | refine below_set ?_ (IsS46.ge HI248.out) | refine below_set ?_ GE237.out | refine below_set ?_ GE241.out | refine below_set ?_ GE254.out) | exact HB.out)⟩
              · rw [if_neg c67] at H
                have c67n : ¬ (t249 = 0 ∧ t250 = 0 ∧ t251.toList = ([] : List UInt8)) := by simpa only [Bool.and_eq_true, beq_iff_eq] using c67
                have c67m : (¬ t249 = 0 ∨ ¬ t250 = 0 ∨ ¬ t251.toList = ([] : List UInt8)) := by simpa only [Classical.not_and_iff_not_or_not] using c67n
                have c67b0 : (t249 == 0 && (t250 == 0 && (t251.toList == ([] : List UInt8)))) = false := by simpa using c67
                (try (have c67b1 : decide (t249 = 0 && (t250 == 0 && (t251.toList == ([] : List UInt8)))) = false := by simpa using c67))
                (try (have c67b2 : (t249 == 0 && (t250 == 0 && (t251.toList == ([] : List UInt8)))) = false := by simpa using c67))
                (try (have c67b3 : ¬ (t249 = 0 && (t250 == 0 && (t251.toList == ([] : List UInt8)))) := by simpa using c67))
                clear c67
                replace H := Option.bind_eq_some_iff.mp H
                obtain ⟨⟨t261, t262, t263⟩, A720, H⟩ := H
                replace H : (if t261 = 0 then (if (t249 == t238 && (t250 == t239 && (t251.toList == x242002_3.toList))) = true then ((value_Same.f t238 t239 x242002_3 t249 t250 t251).bind fun t264 => (some t264)) else (some false)) else (some false)) = some r := H
                have A72 := Aside0.mk A720
                clear A720
                by_cases c73 : t261 = 0
                · rw [if_pos c73] at H
                  have c73b0 : (t261 == 0) = true := beq_iff_eq.mpr c73
                  have c73b1 : (t261 != 0) = false := bne_eq_false_iff_eq.mpr c73
                  clear c73
                  by_cases c74 : (t249 == t238 && (t250 == t239 && (t251.toList == x242002_3.toList))) = true
                  · rw [if_pos c74] at H
                    have c74s := c74
                    simp only [Bool.and_eq_true, beq_iff_eq] at c74s
                    obtain ⟨c74s0, c74s1, c74s2⟩ := c74s
                    have c74b0 : (t249 == t238 && (t250 == t239 && (t251.toList == x242002_3.toList))) = true := c74
                    have c67n_c74 := c67n
                    (try simp only [c74s0, c74s1, c74s2] at c67n_c74)
                    have c67m_c74 := c67m
                    (try simp only [c74s0, c74s1, c74s2] at c67m_c74)
                    (try (have c74b1 : decide (t249 = t238 && (t250 == t239 && (t251.toList == x242002_3.toList))) = true := by simpa using c74))
                    (try (have c74b2 : (t249 == t238 && (t250 == t239 && (t251.toList == x242002_3.toList))) = true := by simpa using c74))
                    clear c74
                    replace H := Option.bind_eq_some_iff.mp H
                    obtain ⟨t264, A750, H⟩ := H
                    replace H : (some t264) = some r := H
                    rw [c74s0, c74s1] at A750
                    have A75 := Aside0.mk A750
                    clear A750
                    obtain rfl := Option.some.inj H
                    have hnb76 := NB254_237.out
                    have hnc76 := NB237_254.out
                    have hnb77 := NB254_241.out
                    have hnc77 := NB241_254.out
                    have hnb78 := NB254_248.out
                    have hnc78 := NB248_254.out
                    have hcz79_0 : wc.cell? ⟨gb254, 0, none⟩ = some (.int .i64 t249) := (blk_cell BK254.out 0).trans rfl
                    have hcz79_1 : wc.cell? ⟨gb254, 1, none⟩ = some (.int .i64 t250) := (blk_cell BK254.out 1).trans rfl
                    have hcz79_2 : wc.cell? ⟨gb254, 2, none⟩ = some (.string t251) := (blk_cell BK254.out 2).trans rfl
                    have hfz79_0 := blk_frozen BK254.out 0
                    have hfz79_1 := blk_frozen BK254.out 1
                    have hfz79_2 := blk_frozen BK254.out 2
                    go_wp2_with (first | (go_at_call 18; (with_reducible refine (code_Reader_End.calls g248 t252 t253 t261 t262 t263 w _ ?side1 ?side2 A72.out).mono ?_); (case side1 => repeat (first | (with_reducible first | exact HI248.out | apply IsS46.alloc | apply IsS46.drewN | apply IsS46.drew | apply IsS46.set_0 | apply IsS46.set_1 | refine IsS46.far ?_ NB248_237.out _ | refine IsS46.far ?_ NB248_241.out _ | refine IsS46.far ?_ NB248_254.out _) | exact HI248.out)); (case side2 => repeat (first | (with_reducible first | exact HB.out | apply below_alloc | apply pw_below_drewN | apply below_drew1 | refine below_set ?_ (IsS46.ge HI248.out) | refine below_set ?_ GE237.out | refine below_set ?_ GE241.out | refine below_set ?_ GE254.out) | exact HB.out)); rintro e w80 ⟨rfl, hi, hb, hk⟩; have n0_ := Aside0.mk (KeepBut.blk hk (g' := gb237) (o := .cells #[.int .i64 a0_0, .int .i64 a0_1, .string a0_2] 23 (0, 0)) (by (with_reducible repeat (first | refine blk_drewN ?_ _ | refine blk_drew ?_ | refine blk_alloc ?_ _)); exact BK237.out) NB237_248.out (by simp)); have n1_ := Aside0.mk (KeepBut.blk hk (g' := gb241) (o := .cells #[.int .i64 t238, .int .i64 t239, .string x242002_3] 23 (0, 0)) (by (with_reducible repeat (first | refine blk_drewN ?_ _ | refine blk_drew ?_ | refine blk_alloc ?_ _)); exact BK241.out) NB241_248.out (by simp)); have n2_ := Aside0.mk (KeepBut.blk hk (g' := gb254) (o := .cells #[.int .i64 t249, .int .i64 t250, .string t251] 23 (0, 0)) (by (with_reducible repeat (first | refine blk_drewN ?_ _ | refine blk_drew ?_ | refine blk_alloc ?_ _)); exact BK254.out) NB254_248.out (by simp)); have n3_ := Aside0.mk (hb); have n4_ := Aside0.mk (hi); clear BK237; clear BK241; clear BK254; clear HB; clear HI248; have BK237 := n0_; have BK241 := n1_; have BK254 := n2_; have HB := n3_; have HI248 := n4_; clear n0_ n1_ n2_ n3_ n4_; (try clear hb); (try clear hb2); (try clear hk); (try clear hi); have hcz81_0 : w80.cell? ⟨gb254, 0, none⟩ = some (.int .i64 t249) := (blk_cell BK254.out 0).trans rfl; have hcz81_1 : w80.cell? ⟨gb254, 1, none⟩ = some (.int .i64 t250) := (blk_cell BK254.out 1).trans rfl; have hcz81_2 : w80.cell? ⟨gb254, 2, none⟩ = some (.string t251) := (blk_cell BK254.out 2).trans rfl; have hfz81_0 := blk_frozen BK254.out 0; have hfz81_1 := blk_frozen BK254.out 1; have hfz81_2 := blk_frozen BK254.out 2; have hnb82 := NB241_237.out; have hnc82 := NB237_241.out; have hnb83 := NB241_248.out; have hnc83 := NB248_241.out; have hcz84_0 : w80.cell? ⟨gb241, 0, none⟩ = some (.int .i64 t238) := (blk_cell BK241.out 0).trans rfl; have hcz84_1 : w80.cell? ⟨gb241, 1, none⟩ = some (.int .i64 t239) := (blk_cell BK241.out 1).trans rfl; have hcz84_2 : w80.cell? ⟨gb241, 2, none⟩ = some (.string x242002_3) := (blk_cell BK241.out 2).trans rfl; have hfz84_0 := blk_frozen BK241.out 0; have hfz84_1 := blk_frozen BK241.out 1; have hfz84_2 := blk_frozen BK241.out 2) | (go_at_call 19; (with_reducible refine (value_Same.calls t238 t239 x242002_3 t238 t239 t251 t264 _ A75.out).mono ?_); rintro e w85 ⟨rfl, hb⟩; have n0_ := Aside0.mk (blk_below (g := gb237) (o := .cells #[.int .i64 a0_0, .int .i64 a0_1, .string a0_2] 23 (0, 0)) (by (with_reducible repeat (first | refine blk_drewN ?_ _ | refine blk_drew ?_ | refine blk_alloc ?_ _)); exact BK237.out) hb); have n1_ := Aside0.mk (blk_below (g := gb241) (o := .cells #[.int .i64 t238, .int .i64 t239, .string x242002_3] 23 (0, 0)) (by (with_reducible repeat (first | refine blk_drewN ?_ _ | refine blk_drew ?_ | refine blk_alloc ?_ _)); exact BK241.out) hb); have n2_ := Aside0.mk (blk_below (g := gb254) (o := .cells #[.int .i64 t249, .int .i64 t250, .string t251] 23 (0, 0)) (by (with_reducible repeat (first | refine blk_drewN ?_ _ | refine blk_drew ?_ | refine blk_alloc ?_ _)); exact BK254.out) hb); have n3_ := Aside0.mk (IsS46.below (by repeat (first | (with_reducible first | exact HI248.out | apply IsS46.alloc | apply IsS46.drewN | apply IsS46.drew | apply IsS46.set_0 | apply IsS46.set_1 | refine IsS46.far ?_ NB248_237.out _ | refine IsS46.far ?_ NB248_241.out _ | refine IsS46.far ?_ NB248_254.out _) | exact HI248.out)) hb); have n4_ := Aside0.mk (below_step (by repeat (first | (with_reducible first | exact HB.out | apply below_alloc | apply pw_below_drewN | apply below_drew1 | refine below_set ?_ (IsS46.ge HI248.out) | refine below_set ?_ GE237.out | refine below_set ?_ GE241.out | refine below_set ?_ GE254.out) | exact HB.out)) hb); clear BK237; clear BK241; clear BK254; clear HI248; clear HB; have BK237 := n0_; have BK241 := n1_; have BK254 := n2_; have HI248 := n3_; have HB := n4_; clear n0_ n1_ n2_ n3_ n4_; (try clear hb); (try clear hb2); (try clear hk); (try clear hi)))
                    go_ret
                    exact ⟨by first | rfl | (simp [errW_none, errW_some] <;> rfl) | (simp [*, errW_none, errW_some] <;> rfl), by repeat (first | (with_reducible first | exact HB.out | apply below_alloc | apply pw_below_drewN | apply below_drew1 | refine below_set ?_ (IsS46.ge HI248.out) | refine below_set ?_ GE237.out | refine below_set ?_ GE241.out | refine below_set ?_ GE254.out) | exact HB.out)⟩
                  · rw [if_neg c74] at H
                    have c74n : ¬ (t249 = t238 ∧ t250 = t239 ∧ t251.toList = x242002_3.toList) := by simpa only [Bool.and_eq_true, beq_iff_eq] using c74
                    have c74m : (¬ t249 = t238 ∨ ¬ t250 = t239 ∨ ¬ t251.toList = x242002_3.toList) := by simpa only [Classical.not_and_iff_not_or_not] using c74n
                    have c74b0 : (t249 == t238 && (t250 == t239 && (t251.toList == x242002_3.toList))) = false := by simpa using c74
                    (try (have c74b1 : decide (t249 = t238 && (t250 == t239 && (t251.toList == x242002_3.toList))) = false := by simpa using c74))
                    (try (have c74b2 : (t249 == t238 && (t250 == t239 && (t251.toList == x242002_3.toList))) = false := by simpa using c74))
                    (try (have c74b3 : ¬ (t249 = t238 && (t250 == t239 && (t251.toList == x242002_3.toList))) := by simpa using c74))
                    clear c74
                    exact absurd (H.trans (congrArg some HR_.out)) (by simp)
                · rw [if_neg c73] at H
                  have c73b0 : (t261 == 0) = false := beq_eq_false_iff_ne.mpr c73
                  have c73b1 : (t261 != 0) = true := bne_iff_ne.mpr c73
                  exact absurd (H.trans (congrArg some HR_.out)) (by simp)
            · rw [if_neg c66] at H
              have c66b0 : (t245.toList == ([] : List UInt8)) = false := beq_eq_false_iff_ne.mpr c66
              have c66b1 : (t245.toList != ([] : List UInt8)) = true := bne_iff_ne.mpr c66
              replace H := Option.bind_eq_some_iff.mp H
              obtain ⟨⟨t265, t266, t267⟩, A1000, H⟩ := H
              replace H : (if t265 = 0 then (if (t249 == t238 && (t250 == t239 && (t251.toList == x242002_3.toList))) = true then ((value_Same.f t238 t239 x242002_3 t249 t250 t251).bind fun t268 => (some t268)) else (some false)) else (some false)) = some r := H
              have A100 := Aside0.mk A1000
              clear A1000
              by_cases c101 : t265 = 0
              · rw [if_pos c101] at H
                have c101b0 : (t265 == 0) = true := beq_iff_eq.mpr c101
                have c101b1 : (t265 != 0) = false := bne_eq_false_iff_eq.mpr c101
                clear c101
                by_cases c102 : (t249 == t238 && (t250 == t239 && (t251.toList == x242002_3.toList))) = true
                · rw [if_pos c102] at H
                  have c102s := c102
                  simp only [Bool.and_eq_true, beq_iff_eq] at c102s
                  obtain ⟨c102s0, c102s1, c102s2⟩ := c102s
                  have c102b0 : (t249 == t238 && (t250 == t239 && (t251.toList == x242002_3.toList))) = true := c102
                  (try (have c102b1 : decide (t249 = t238 && (t250 == t239 && (t251.toList == x242002_3.toList))) = true := by simpa using c102))
                  (try (have c102b2 : (t249 == t238 && (t250 == t239 && (t251.toList == x242002_3.toList))) = true := by simpa using c102))
                  clear c102
                  replace H := Option.bind_eq_some_iff.mp H
                  obtain ⟨t268, A1030, H⟩ := H
                  replace H : (some t268) = some r := H
                  rw [c102s0, c102s1] at A1030
                  have A103 := Aside0.mk A1030
                  clear A1030
                  obtain rfl := Option.some.inj H
                  go_wp2_with (first | (go_at_call 18; (with_reducible refine (code_Reader_End.calls g248 t252 t253 t265 t266 t267 w _ ?side1 ?side2 A100.out).mono ?_); (case side1 => repeat (first | (with_reducible first | exact HI248.out | apply IsS46.alloc | apply IsS46.drewN | apply IsS46.drew | apply IsS46.set_0 | apply IsS46.set_1 | refine IsS46.far ?_ NB248_237.out _ | refine IsS46.far ?_ NB248_241.out _ | refine IsS46.far ?_ NB248_254.out _) | exact HI248.out)); (case side2 => repeat (first | (with_reducible first | exact HB.out | apply below_alloc | apply pw_below_drewN | apply below_drew1 | refine below_set ?_ (IsS46.ge HI248.out) | refine below_set ?_ GE237.out | refine below_set ?_ GE241.out | refine below_set ?_ GE254.out) | exact HB.out)); rintro e w104 ⟨rfl, hi, hb, hk⟩; have n0_ := Aside0.mk (KeepBut.blk hk (g' := gb237) (o := .cells #[.int .i64 a0_0, .int .i64 a0_1, .string a0_2] 23 (0, 0)) (by (with_reducible repeat (first | refine blk_drewN ?_ _ | refine blk_drew ?_ | refine blk_alloc ?_ _)); exact BK237.out) NB237_248.out (by simp)); have n1_ := Aside0.mk (KeepBut.blk hk (g' := gb241) (o := .cells #[.int .i64 t238, .int .i64 t239, .string x242002_3] 23 (0, 0)) (by (with_reducible repeat (first | refine blk_drewN ?_ _ | refine blk_drew ?_ | refine blk_alloc ?_ _)); exact BK241.out) NB241_248.out (by simp)); have n2_ := Aside0.mk (KeepBut.blk hk (g' := gb254) (o := .cells #[.int .i64 t249, .int .i64 t250, .string t251] 23 (0, 0)) (by (with_reducible repeat (first | refine blk_drewN ?_ _ | refine blk_drew ?_ | refine blk_alloc ?_ _)); exact BK254.out) NB254_248.out (by simp)); have n3_ := Aside0.mk (hb); have n4_ := Aside0.mk (hi); clear BK237; clear BK241; clear BK254; clear HB; clear HI248; have BK237 := n0_; have BK241 := n1_; have BK254 := n2_; have HB := n3_; have HI248 := n4_; clear n0_ n1_ n2_ n3_ n4_; (try clear hb); (try clear hb2); (try clear hk); (try clear hi); have hnb105 := NB254_237.out; have hnc105 := NB237_254.out; have hnb106 := NB254_241.out; have hnc106 := NB241_254.out; have hnb107 := NB254_248.out; have hnc107 := NB248_254.out; have hcz108_0 : w104.cell? ⟨gb254, 0, none⟩ = some (.int .i64 t249) := (blk_cell BK254.out 0).trans rfl; have hcz108_1 : w104.cell? ⟨gb254, 1, none⟩ = some (.int .i64 t250) := (blk_cell BK254.out 1).trans rfl; have hcz108_2 : w104.cell? ⟨gb254, 2, none⟩ = some (.string t251) := (blk_cell BK254.out 2).trans rfl; have hfz108_0 := blk_frozen BK254.out 0; have hfz108_1 := blk_frozen BK254.out 1; have hfz108_2 := blk_frozen BK254.out 2; have hnb109 := NB241_237.out; have hnc109 := NB237_241.out; have hnb110 := NB241_248.out; have hnc110 := NB248_241.out; have hcz111_0 : w104.cell? ⟨gb241, 0, none⟩ = some (.int .i64 t238) := (blk_cell BK241.out 0).trans rfl; have hcz111_1 : w104.cell? ⟨gb241, 1, none⟩ = some (.int .i64 t239) := (blk_cell BK241.out 1).trans rfl; have hcz111_2 : w104.cell? ⟨gb241, 2, none⟩ = some (.string x242002_3) := (blk_cell BK241.out 2).trans rfl; have hfz111_0 := blk_frozen BK241.out 0; have hfz111_1 := blk_frozen BK241.out 1; have hfz111_2 := blk_frozen BK241.out 2) | (go_at_call 19; (with_reducible refine (value_Same.calls t238 t239 x242002_3 t238 t239 t251 t268 _ A103.out).mono ?_); rintro e w112 ⟨rfl, hb⟩; have n0_ := Aside0.mk (blk_below (g := gb237) (o := .cells #[.int .i64 a0_0, .int .i64 a0_1, .string a0_2] 23 (0, 0)) (by (with_reducible repeat (first | refine blk_drewN ?_ _ | refine blk_drew ?_ | refine blk_alloc ?_ _)); exact BK237.out) hb); have n1_ := Aside0.mk (blk_below (g := gb241) (o := .cells #[.int .i64 t238, .int .i64 t239, .string x242002_3] 23 (0, 0)) (by (with_reducible repeat (first | refine blk_drewN ?_ _ | refine blk_drew ?_ | refine blk_alloc ?_ _)); exact BK241.out) hb); have n2_ := Aside0.mk (blk_below (g := gb254) (o := .cells #[.int .i64 t249, .int .i64 t250, .string t251] 23 (0, 0)) (by (with_reducible repeat (first | refine blk_drewN ?_ _ | refine blk_drew ?_ | refine blk_alloc ?_ _)); exact BK254.out) hb); have n3_ := Aside0.mk (IsS46.below (by repeat (first | (with_reducible first | exact HI248.out | apply IsS46.alloc | apply IsS46.drewN | apply IsS46.drew | apply IsS46.set_0 | apply IsS46.set_1 | refine IsS46.far ?_ NB248_237.out _ | refine IsS46.far ?_ NB248_241.out _ | refine IsS46.far ?_ NB248_254.out _) | exact HI248.out)) hb); have n4_ := Aside0.mk (below_step (by repeat (first | (with_reducible first | exact HB.out | apply below_alloc | apply pw_below_drewN | apply below_drew1 | refine below_set ?_ (IsS46.ge HI248.out) | refine below_set ?_ GE237.out | refine below_set ?_ GE241.out | refine below_set ?_ GE254.out) | exact HB.out)) hb); clear BK237; clear BK241; clear BK254; clear HI248; clear HB; have BK237 := n0_; have BK241 := n1_; have BK254 := n2_; have HI248 := n3_; have HB := n4_; clear n0_ n1_ n2_ n3_ n4_; (try clear hb); (try clear hb2); (try clear hk); (try clear hi)))
                  go_ret
                  exact ⟨by first | rfl | (simp [errW_none, errW_some] <;> rfl) | (simp [*, errW_none, errW_some] <;> rfl), by repeat (first | (with_reducible first | exact HB.out | apply below_alloc | apply pw_below_drewN | apply below_drew1 | refine below_set ?_ (IsS46.ge HI248.out) | refine below_set ?_ GE237.out | refine below_set ?_ GE241.out | refine below_set ?_ GE254.out) | exact HB.out)⟩
                · rw [if_neg c102] at H
                  have c102n : ¬ (t249 = t238 ∧ t250 = t239 ∧ t251.toList = x242002_3.toList) := by simpa only [Bool.and_eq_true, beq_iff_eq] using c102
                  have c102m : (¬ t249 = t238 ∨ ¬ t250 = t239 ∨ ¬ t251.toList = x242002_3.toList) := by simpa only [Classical.not_and_iff_not_or_not] using c102n
                  have c102b0 : (t249 == t238 && (t250 == t239 && (t251.toList == x242002_3.toList))) = false := by simpa using c102
                  (try (have c102b1 : decide (t249 = t238 && (t250 == t239 && (t251.toList == x242002_3.toList))) = false := by simpa using c102))
                  (try (have c102b2 : (t249 == t238 && (t250 == t239 && (t251.toList == x242002_3.toList))) = false := by simpa using c102))
                  (try (have c102b3 : ¬ (t249 = t238 && (t250 == t239 && (t251.toList == x242002_3.toList))) := by simpa using c102))
                  clear c102
                  exact absurd (H.trans (congrArg some HR_.out)) (by simp)
              · rw [if_neg c101] at H
                have c101b0 : (t265 == 0) = false := beq_eq_false_iff_ne.mpr c101
                have c101b1 : (t265 != 0) = true := bne_iff_ne.mpr c101
                exact absurd (H.trans (congrArg some HR_.out)) (by simp)

end Go.Proofs.Ytbohjpmnlglldaa.PValuePuts
