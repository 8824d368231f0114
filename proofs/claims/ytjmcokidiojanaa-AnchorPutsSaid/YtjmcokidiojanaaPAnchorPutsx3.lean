-- Written by a program of this session's (the kit's print, with additions of my own). Not trusted: Lean checks it.
import Derived.Test.YtjmcokidiojanaaPAnchorPutsx0
import Derived.Test.YtjmcokidiojanaaPAnchorPutsx2
namespace Go.Proofs.Ytjmcokidiojanaa.PAnchorPuts
open Go.RowKit Go.Proofs.YtjmcokidiojanaaW.PrintWords Go.Proofs.YtjmcokidiojanaaW.PrintLast Go.Proofs.YtjmcokidiojanaaW.PrintMore
attribute [local go_sem] max2_int min2_int max_two min_two max_three min_three max_four min_four   -- for this text's walks alone
set_option linter.unusedVariables false
set_option linter.unusedSimpArgs false

/-! ### lodestonelaw12_near: function 5 -/
def lodestonelaw12_near.j0 : Nat → Int → Int → Int → Bool → ByteArray → Int → ByteArray → Int → Int → ByteArray → Int → Int → Bool → ByteArray → Int → ByteArray → Int → Int → ByteArray → Option (Int × Int × Bool × ByteArray × Int × ByteArray × Int × Int × ByteArray)
  | 0, _, _, _, _, _, _, _, _, _, _, _, _, _, _, _, _, _, _, _ => none
  | k + 1, x1, x102000, x102001, x102002, x102003, x102004, x102005, x102006, x102007, x102008, x104000, x104001, x104002, x104003, x104004, x104005, x104006, x104007, x104008 => if (Go.bits .and .i64 x1 7) = 0 then (some (x104000, x104001, x104002, x104003, (-1), (⟨#[]⟩ : ByteArray), x104006, x104007, x104008)) else (if (Go.bits .and .i64 x1 7) = 1 then (some (x104000, x104001, x104002, x104003, x104004, x104005, x102006, x104007, x104008)) else (if (Go.bits .and .i64 x1 7) = 2 then (some (x104000, x104001, x104002, x104003, x104004, x104005, x104006, x104007, x102008)) else (if (Go.bits .and .i64 x1 7) = 3 then (some (x104000, x104001, x104002, x104003, x104004, x102005, x104006, x104007, x104008)) else (if (Go.bits .and .i64 x1 7) = 4 then (some (x104000, x104001, x102002, x104003, x104004, x104005, x104006, x104007, x104008)) else (some (x104000, x104001, x104002, x104003, x104004, x104005, x104006, x104007, x104008))))))
def lodestonelaw12_near.f (k : Nat) (a0_0 : Int) (a0_1 : Int) (a0_2 : Bool) (a0_3 : ByteArray) (a0_4 : Int) (a0_5 : ByteArray) (a0_6 : Int) (a0_7 : Int) (a0_8 : ByteArray) (a1 : Int) : Option (Int × Int × Bool × ByteArray × Int × ByteArray × Int × Int × ByteArray) := (lodestonelaw12_sum.f a0_8).bind fun t104 => ((lodestonelaw12_sum.f a0_5).bind fun t105 => (if 0 ≤ (mn (a0_3.size : Int) 90) then (if (mn (a0_3.size : Int) 90) ≤ (a0_3.size : Int) then (if (a0_3.extract 0 ((mn (a0_3.size : Int) 90) : Int).toNat).toList = ([] : List UInt8) then (lodestonelaw12_near.j0 k a1 a0_0 a0_1 a0_2 a0_3 a0_4 a0_5 a0_6 a0_7 a0_8 a0_0 a0_1 a0_2 (a0_3.extract 0 ((mn (a0_3.size : Int) 90) : Int).toNat) (Go.bits .and .i64 a0_4 4095) t105 (Go.bits .and .i64 a0_6 4095) (Go.bits .and .i64 a0_7 4095) t104) else (lodestonelaw12_near.j0 k a1 a0_0 a0_1 a0_2 a0_3 a0_4 a0_5 a0_6 a0_7 a0_8 a0_0 a0_1 true (a0_3.extract 0 ((mn (a0_3.size : Int) 90) : Int).toNat) (Go.bits .and .i64 a0_4 4095) t105 (Go.bits .and .i64 a0_6 4095) (Go.bits .and .i64 a0_7 4095) t104)) else (none)) else (none)))
theorem lodestonelaw12_near.mono_l : ∀ k, (∀ y0 y1 y2 y3 y4 y5 y6 y7 y8 y9 y10 y11 y12 y13 y14 y15 y16 y17 y18, LeO (lodestonelaw12_near.j0 k y0 y1 y2 y3 y4 y5 y6 y7 y8 y9 y10 y11 y12 y13 y14 y15 y16 y17 y18) (lodestonelaw12_near.j0 (k + 1) y0 y1 y2 y3 y4 y5 y6 y7 y8 y9 y10 y11 y12 y13 y14 y15 y16 y17 y18))
  | 0 => fun _ _ _ _ _ _ _ _ _ _ _ _ _ _ _ _ _ _ _ r h => by simp [lodestonelaw12_near.j0] at h
  | k + 1 => by
    have ih0 := lodestonelaw12_near.mono_l k
    · intro y0 y1 y2 y3 y4 y5 y6 y7 y8 y9 y10 y11 y12 y13 y14 y15 y16 y17 y18
      unfold lodestonelaw12_near.j0
      repeat' first
      | (with_reducible exact ih0 _ _ _ _ _ _ _ _ _ _ _ _ _ _ _ _ _ _ _)
      | (with_reducible exact LeO.refl _)
      | (with_reducible exact LeO.none _)
      | (with_reducible refine LeO.ite ?_ ?_)
      | (with_reducible refine LeO.bind ?_ (fun _ => ?_))
      | exact ih0 _ _ _ _ _ _ _ _ _ _ _ _ _ _ _ _ _ _ _
      | exact LeO.none _
      | refine LeO.ite ?_ ?_
      | refine LeO.bind ?_ (fun _ => ?_)
theorem lodestonelaw12_near.mono : ∀ a0 a1 a2 a3 a4 a5 a6 a7 a8 a9 k, LeO (lodestonelaw12_near.f k a0 a1 a2 a3 a4 a5 a6 a7 a8 a9) (lodestonelaw12_near.f (k + 1) a0 a1 a2 a3 a4 a5 a6 a7 a8 a9) := by
  intro a0 a1 a2 a3 a4 a5 a6 a7 a8 a9 k
  have ih0 := lodestonelaw12_near.mono_l k
  unfold lodestonelaw12_near.f
  repeat' first
      | (with_reducible exact ih0 _ _ _ _ _ _ _ _ _ _ _ _ _ _ _ _ _ _ _)
      | (with_reducible exact LeO.refl _)
      | (with_reducible exact LeO.none _)
      | (with_reducible refine LeO.ite ?_ ?_)
      | (with_reducible refine LeO.bind ?_ (fun _ => ?_))
      | exact ih0 _ _ _ _ _ _ _ _ _ _ _ _ _ _ _ _ _ _ _
      | exact LeO.none _
      | refine LeO.ite ?_ ?_
      | refine LeO.bind ?_ (fun _ => ?_)
def lodestonelaw12_near.T2 : Bool × List (List Nat × List Nat) := (true, [([], []), ([0], [0]), ([1], [1]), ([], []), ([3], [3]), ([4], [4]), ([], []), ([6], [6]), ([7], [7]), ([0, 1, 2], []), ([9, 2, 8, 0, 1, 2], [2, 9]), ([0, 1, 2, 3, 4, 5, 9, 10], []), ([11, 5, 10, 0, 1, 2, 3, 4, 5, 9, 10], [5, 11]), ([0, 1, 2, 3, 4, 5, 6, 7, 8, 9, 10, 11, 12], []), ([13, 8, 12, 0, 1, 2, 3, 4, 5, 6, 7, 8, 9, 10, 11, 12], [8, 13])])
def lodestonelaw12_near.B2 : List Nat := [0, 1, 3, 0, 8, 24, 0, 64, 192, 7, 967, 2047, 4095, 8191, 16383]
theorem lodestonelaw12_near.tab2 : rtab .any (opsOf Try.f5 2) = lodestonelaw12_near.T2 := by kernel_rfl
theorem lodestonelaw12_near.bits2 : waitsOk lodestonelaw12_near.T2.2 lodestonelaw12_near.B2 = true := by kernel_rfl
def lodestonelaw12_near.T3 : Bool × List (List Nat × List Nat) := (true, [([], []), ([0], [0]), ([1], [1]), ([2], [2]), ([], []), ([4], [4]), ([5], [5]), ([6], [6]), ([3, 7], [3, 7]), ([0, 1, 2, 3, 4, 5, 6, 7, 8], []), ([9, 8, 7, 0, 1, 2, 3, 4, 5, 6, 7, 8], [8, 9])])
def lodestonelaw12_near.B3 : List Nat := [0, 1, 3, 7, 0, 16, 48, 112, 255, 511, 1023]
theorem lodestonelaw12_near.tab3 : rtab .any (opsOf Try.f5 3) = lodestonelaw12_near.T3 := by kernel_rfl
theorem lodestonelaw12_near.bits3 : waitsOk lodestonelaw12_near.T3.2 lodestonelaw12_near.B3 = true := by kernel_rfl
set_option maxHeartbeats 8000000 in
set_option maxRecDepth 10000000 in
theorem lodestonelaw12_near.calls (k : Nat) (a0_0 : Int) (a0_1 : Int) (a0_2 : Bool) (a0_3 : ByteArray) (a0_4 : Int) (a0_5 : ByteArray) (a0_6 : Int) (a0_7 : Int) (a0_8 : ByteArray) (a1 : Int) (r1 : Int) (r2 : Int) (r3 : Bool) (r4 : ByteArray) (r5 : Int) (r6 : ByteArray) (r7 : Int) (r8 : Int) (r9 : ByteArray) (w : World) (h : lodestonelaw12_near.f k a0_0 a0_1 a0_2 a0_3 a0_4 a0_5 a0_6 a0_7 a0_8 a1 = some (r1, r2, r3, r4, r5, r6, r7, r8, r9)) :
    Calls Try.prog 5 #[.agg #[.int .u64 a0_0, .int .u32 a0_1, .bool a0_2, .string a0_3, .int .i64 a0_4, .string a0_5, .int .i64 a0_6, .int .i64 a0_7, .string a0_8], .int .i64 a1] w fun e w' => e = .returned (.agg #[.int .u64 r1, .int .u32 r2, .bool r3, .string r4, .int .i64 r5, .string r6, .int .i64 r7, .int .i64 r8, .string r9]) ∧ Below w.heap.size w w' := by
  have hu27 := Try.underlying27
  have hu25 := Try.underlying25
  have HB := Aside0.mk (Below.refl w.heap.size w)
  have H : ((lodestonelaw12_sum.f a0_8).bind fun t104 => ((lodestonelaw12_sum.f a0_5).bind fun t105 => (if 0 ≤ (mn (a0_3.size : Int) 90) then (if (mn (a0_3.size : Int) 90) ≤ (a0_3.size : Int) then (if (a0_3.extract 0 ((mn (a0_3.size : Int) 90) : Int).toNat).toList = ([] : List UInt8) then (lodestonelaw12_near.j0 k a1 a0_0 a0_1 a0_2 a0_3 a0_4 a0_5 a0_6 a0_7 a0_8 a0_0 a0_1 a0_2 (a0_3.extract 0 ((mn (a0_3.size : Int) 90) : Int).toNat) (Go.bits .and .i64 a0_4 4095) t105 (Go.bits .and .i64 a0_6 4095) (Go.bits .and .i64 a0_7 4095) t104) else (lodestonelaw12_near.j0 k a1 a0_0 a0_1 a0_2 a0_3 a0_4 a0_5 a0_6 a0_7 a0_8 a0_0 a0_1 true (a0_3.extract 0 ((mn (a0_3.size : Int) 90) : Int).toNat) (Go.bits .and .i64 a0_4 4095) t105 (Go.bits .and .i64 a0_6 4095) (Go.bits .and .i64 a0_7 4095) t104)) else (none)) else (none)))) = some (r1, r2, r3, r4, r5, r6, r7, r8, r9) := h
  clear h
  replace H := Option.bind_eq_some_iff.mp H
  obtain ⟨t104, A30, H⟩ := H
  replace H : ((lodestonelaw12_sum.f a0_5).bind fun t105 => (if 0 ≤ (mn (a0_3.size : Int) 90) then (if (mn (a0_3.size : Int) 90) ≤ (a0_3.size : Int) then (if (a0_3.extract 0 ((mn (a0_3.size : Int) 90) : Int).toNat).toList = ([] : List UInt8) then (lodestonelaw12_near.j0 k a1 a0_0 a0_1 a0_2 a0_3 a0_4 a0_5 a0_6 a0_7 a0_8 a0_0 a0_1 a0_2 (a0_3.extract 0 ((mn (a0_3.size : Int) 90) : Int).toNat) (Go.bits .and .i64 a0_4 4095) t105 (Go.bits .and .i64 a0_6 4095) (Go.bits .and .i64 a0_7 4095) t104) else (lodestonelaw12_near.j0 k a1 a0_0 a0_1 a0_2 a0_3 a0_4 a0_5 a0_6 a0_7 a0_8 a0_0 a0_1 true (a0_3.extract 0 ((mn (a0_3.size : Int) 90) : Int).toNat) (Go.bits .and .i64 a0_4 4095) t105 (Go.bits .and .i64 a0_6 4095) (Go.bits .and .i64 a0_7 4095) t104)) else (none)) else (none))) = some (r1, r2, r3, r4, r5, r6, r7, r8, r9) := H
  have A3 := Aside0.mk A30
  clear A30
  replace H := Option.bind_eq_some_iff.mp H
  obtain ⟨t105, A40, H⟩ := H
  replace H : (if 0 ≤ (mn (a0_3.size : Int) 90) then (if (mn (a0_3.size : Int) 90) ≤ (a0_3.size : Int) then (if (a0_3.extract 0 ((mn (a0_3.size : Int) 90) : Int).toNat).toList = ([] : List UInt8) then (lodestonelaw12_near.j0 k a1 a0_0 a0_1 a0_2 a0_3 a0_4 a0_5 a0_6 a0_7 a0_8 a0_0 a0_1 a0_2 (a0_3.extract 0 ((mn (a0_3.size : Int) 90) : Int).toNat) (Go.bits .and .i64 a0_4 4095) t105 (Go.bits .and .i64 a0_6 4095) (Go.bits .and .i64 a0_7 4095) t104) else (lodestonelaw12_near.j0 k a1 a0_0 a0_1 a0_2 a0_3 a0_4 a0_5 a0_6 a0_7 a0_8 a0_0 a0_1 true (a0_3.extract 0 ((mn (a0_3.size : Int) 90) : Int).toNat) (Go.bits .and .i64 a0_4 4095) t105 (Go.bits .and .i64 a0_6 4095) (Go.bits .and .i64 a0_7 4095) t104)) else (none)) else (none)) = some (r1, r2, r3, r4, r5, r6, r7, r8, r9) := H
  have A4 := Aside0.mk A40
  clear A40
  obtain ⟨ji5, hji5⟩ : ∃ j_ : Int, (mn (a0_3.size : Int) 90) = j_ := ⟨_, rfl⟩
  replace H : (if 0 ≤ (ji5) then (if (ji5) ≤ (a0_3.size : Int) then (if (a0_3.extract 0 ((ji5) : Int).toNat).toList = ([] : List UInt8) then (lodestonelaw12_near.j0 k a1 a0_0 a0_1 a0_2 a0_3 a0_4 a0_5 a0_6 a0_7 a0_8 a0_0 a0_1 a0_2 (a0_3.extract 0 ((ji5) : Int).toNat) (Go.bits .and .i64 a0_4 4095) t105 (Go.bits .and .i64 a0_6 4095) (Go.bits .and .i64 a0_7 4095) t104) else (lodestonelaw12_near.j0 k a1 a0_0 a0_1 a0_2 a0_3 a0_4 a0_5 a0_6 a0_7 a0_8 a0_0 a0_1 true (a0_3.extract 0 ((ji5) : Int).toNat) (Go.bits .and .i64 a0_4 4095) t105 (Go.bits .and .i64 a0_6 4095) (Go.bits .and .i64 a0_7 4095) t104)) else (none)) else (none)) = some (r1, r2, r3, r4, r5, r6, r7, r8, r9) := by first | (rw [hji5] at H; exact H) | (simp only [hji5] at H ⊢; exact H)
  (try rw [hji5] at A3)
  (try rw [hji5] at A4)
  (try (have hji5h : ji5 ≤ 90 := by (rw [← hji5]; unfold mn; (repeat' split) <;> omega)))
  (try (have hji5g : ji5 ≤ 64 := by omega))
  (try (have hji5l : 0 ≤ ji5 := by (rw [← hji5]; unfold mn; (repeat' split) <;> omega)))
  (try (have hji5m : 0 ≤ ji5 := by omega))
  have hji5_ : (if 90 < (a0_3.size : Int) then 90 else (a0_3.size : Int)) = ji5 := hji5
  by_cases c6 : 0 ≤ (ji5)
  · rw [if_pos c6] at H
    have c6b0 := eq_true c6
    have c6b1 : decide (0 ≤ (ji5)) = true := decide_eq_true c6
    clear c6
    by_cases c7 : (ji5) ≤ (a0_3.size : Int)
    · rw [if_pos c7] at H
      have c7b0 := eq_true c7
      have c7b1 : decide ((ji5) ≤ (a0_3.size : Int)) = true := decide_eq_true c7
      clear c7
      have HC8 := Aside0.mk H
      clear H
      go_enter Try.func5, Try.ntmps5
      try go_wp2_with (first | ((with_reducible refine gate_dst (N := 2) rfl ?_); refine box_event ?hg (N := 2) ?hd (cs := #[.int .u64 a0_0, .int .u32 a0_1, .bool a0_2, .string a0_3, .int .i64 a0_4, .string a0_5, .int .i64 a0_6, .int .i64 a0_7, .string a0_8]) (t := 27) ?hr ?_; (case hd => rfl); (case hg => rfl); (case hr => first | (go_simp; done) | (go_simp; rfl)); intro gb101 hg w9 hbox hb; have n0_ := Aside0.mk (below_step (by repeat (first | (with_reducible first | exact HB.out | apply below_alloc | apply pw_below_drewN | apply below_drew1) | exact HB.out)) hb); have n1_ := Aside0.mk (hbox); have n2_ := Aside0.mk ((by rw [hg]; exact (below_size (by repeat (first | (with_reducible first | exact HB.out | apply below_alloc | apply pw_below_drewN | apply below_drew1) | exact HB.out))) : w.heap.size ≤ gb101)); have n3_ := Aside0.mk ((by rw [hg]; exact (below_size (by repeat (first | (with_reducible first | exact HB.out | apply below_alloc | apply pw_below_drewN | apply below_drew1) | exact HB.out))) : w.heap.size ≤ gb101)); clear HB; have HB := n0_; have BK101 := n1_; have GW101 := n2_; have GE101 := n3_; clear n0_ n1_ n2_ n3_; clear hb hbox hg) | ((with_reducible refine gate_dst (N := 4) rfl ?_); refine box_event ?hg (N := 4) ?hd (cs := #[.int .u64 0, .int .u32 0, .bool false, .string (⟨#[]⟩ : ByteArray), .int .i64 0, .string (⟨#[]⟩ : ByteArray), .int .i64 0, .int .i64 0, .string (⟨#[]⟩ : ByteArray)]) (t := 27) ?hr ?_; (case hd => rfl); (case hg => rfl); (case hr => first | (go_simp; done) | (go_simp; rfl)); intro gb102 hg w10 hbox hb; have n0_ := Aside0.mk (blk_below (g := gb101) (o := .cells #[.int .u64 a0_0, .int .u32 a0_1, .bool a0_2, .string a0_3, .int .i64 a0_4, .string a0_5, .int .i64 a0_6, .int .i64 a0_7, .string a0_8] 27 (0, 0)) (by (with_reducible repeat (first | refine blk_drewN ?_ _ | refine blk_drew ?_ | refine blk_alloc ?_ _)); exact BK101.out) hb); have n1_ := Aside0.mk (below_step (by repeat (first | (with_reducible first | exact HB.out | apply below_alloc | apply pw_below_drewN | apply below_drew1 | refine below_set ?_ GE101.out) | exact HB.out)) hb); have n2_ := Aside0.mk (hbox); have n3_ := Aside0.mk ((by rw [hg]; exact (below_size (by repeat (first | (with_reducible first | exact HB.out | apply below_alloc | apply pw_below_drewN | apply below_drew1 | refine below_set ?_ GE101.out) | exact HB.out))) : w.heap.size ≤ gb102)); have n4_ := Aside0.mk ((by rw [hg]; exact (below_size (by repeat (first | (with_reducible first | exact HB.out | apply below_alloc | apply pw_below_drewN | apply below_drew1 | refine below_set ?_ GE101.out) | exact HB.out))) : w.heap.size ≤ gb102)); have n5_ := Aside0.mk ((by rw [hg]; exact Nat.ne_of_lt (blk_lt (g := gb101) (o := .cells #[.int .u64 a0_0, .int .u32 a0_1, .bool a0_2, .string a0_3, .int .i64 a0_4, .string a0_5, .int .i64 a0_6, .int .i64 a0_7, .string a0_8] 27 (0, 0)) (by (with_reducible repeat (first | refine blk_drewN ?_ _ | refine blk_drew ?_ | refine blk_alloc ?_ _)); exact BK101.out)) : gb101 ≠ gb102)); have n6_ := Aside0.mk ((by rw [hg]; exact Nat.ne_of_gt (blk_lt (g := gb101) (o := .cells #[.int .u64 a0_0, .int .u32 a0_1, .bool a0_2, .string a0_3, .int .i64 a0_4, .string a0_5, .int .i64 a0_6, .int .i64 a0_7, .string a0_8] 27 (0, 0)) (by (with_reducible repeat (first | refine blk_drewN ?_ _ | refine blk_drew ?_ | refine blk_alloc ?_ _)); exact BK101.out)) : gb102 ≠ gb101)); clear BK101; clear HB; have BK101 := n0_; have HB := n1_; have BK102 := n2_; have GW102 := n3_; have GE102 := n4_; have NB101_102 := n5_; have NB102_101 := n6_; clear n0_ n1_ n2_ n3_ n4_ n5_ n6_; clear hb hbox hg; have hnb11 := NB101_102.out; have hnc11 := NB102_101.out; have hcz12_0 : w10.cell? ⟨gb101, 0, none⟩ = some (.int .u64 a0_0) := (blk_cell BK101.out 0).trans rfl; have hcz12_1 : w10.cell? ⟨gb101, 1, none⟩ = some (.int .u32 a0_1) := (blk_cell BK101.out 1).trans rfl; have hcz12_2 : w10.cell? ⟨gb101, 2, none⟩ = some (.bool a0_2) := (blk_cell BK101.out 2).trans rfl; have hcz12_3 : w10.cell? ⟨gb101, 3, none⟩ = some (.string a0_3) := (blk_cell BK101.out 3).trans rfl; have hcz12_4 : w10.cell? ⟨gb101, 4, none⟩ = some (.int .i64 a0_4) := (blk_cell BK101.out 4).trans rfl; have hcz12_5 : w10.cell? ⟨gb101, 5, none⟩ = some (.string a0_5) := (blk_cell BK101.out 5).trans rfl; have hcz12_6 : w10.cell? ⟨gb101, 6, none⟩ = some (.int .i64 a0_6) := (blk_cell BK101.out 6).trans rfl; have hcz12_7 : w10.cell? ⟨gb101, 7, none⟩ = some (.int .i64 a0_7) := (blk_cell BK101.out 7).trans rfl; have hcz12_8 : w10.cell? ⟨gb101, 8, none⟩ = some (.string a0_8) := (blk_cell BK101.out 8).trans rfl; have hfz12_0 := blk_frozen BK101.out 0; have hfz12_1 := blk_frozen BK101.out 1; have hfz12_2 := blk_frozen BK101.out 2; have hfz12_3 := blk_frozen BK101.out 3; have hfz12_4 := blk_frozen BK101.out 4; have hfz12_5 := blk_frozen BK101.out 5; have hfz12_6 := blk_frozen BK101.out 6; have hfz12_7 := blk_frozen BK101.out 7; have hfz12_8 := blk_frozen BK101.out 8) | ((with_reducible refine gate_dst (N := 5) rfl ?_); refine box_event ?hg (N := 5) ?hd (cs := #[.int .u64 0, .int .u32 0, .bool false, .string (⟨#[]⟩ : ByteArray), .int .i64 0, .string (⟨#[]⟩ : ByteArray), .int .i64 0, .int .i64 0, .string (⟨#[]⟩ : ByteArray)]) (t := 27) ?hr ?_; (case hd => rfl); (case hg => rfl); (case hr => first | (go_simp; done) | (go_simp; rfl)); intro gb103 hg w13 hbox hb; have n0_ := Aside0.mk (blk_below (g := gb101) (o := .cells #[.int .u64 a0_0, .int .u32 a0_1, .bool a0_2, .string a0_3, .int .i64 a0_4, .string a0_5, .int .i64 a0_6, .int .i64 a0_7, .string a0_8] 27 (0, 0)) (by (with_reducible repeat (first | refine blk_drewN ?_ _ | refine blk_drew ?_ | refine blk_alloc ?_ _)); exact BK101.out) hb); have n1_ := Aside0.mk (blk_below (g := gb102) (o := .cells #[.int .u64 0, .int .u32 0, .bool false, .string (⟨#[]⟩ : ByteArray), .int .i64 0, .string (⟨#[]⟩ : ByteArray), .int .i64 0, .int .i64 0, .string (⟨#[]⟩ : ByteArray)] 27 (0, 0)) (by (with_reducible repeat (first | refine blk_drewN ?_ _ | refine blk_drew ?_ | refine blk_alloc ?_ _)); exact BK102.out) hb); have n2_ := Aside0.mk (below_step (by repeat (first | (with_reducible first | exact HB.out | apply below_alloc | apply pw_below_drewN | apply below_drew1 | refine below_set ?_ GE101.out | refine below_set ?_ GE102.out) | exact HB.out)) hb); have n3_ := Aside0.mk (hbox); have n4_ := Aside0.mk ((by rw [hg]; exact (below_size (by repeat (first | (with_reducible first | exact HB.out | apply below_alloc | apply pw_below_drewN | apply below_drew1 | refine below_set ?_ GE101.out | refine below_set ?_ GE102.out) | exact HB.out))) : w.heap.size ≤ gb103)); have n5_ := Aside0.mk ((by rw [hg]; exact (below_size (by repeat (first | (with_reducible first | exact HB.out | apply below_alloc | apply pw_below_drewN | apply below_drew1 | refine below_set ?_ GE101.out | refine below_set ?_ GE102.out) | exact HB.out))) : w.heap.size ≤ gb103)); have n6_ := Aside0.mk ((by rw [hg]; exact Nat.ne_of_lt (blk_lt (g := gb101) (o := .cells #[.int .u64 a0_0, .int .u32 a0_1, .bool a0_2, .string a0_3, .int .i64 a0_4, .string a0_5, .int .i64 a0_6, .int .i64 a0_7, .string a0_8] 27 (0, 0)) (by (with_reducible repeat (first | refine blk_drewN ?_ _ | refine blk_drew ?_ | refine blk_alloc ?_ _)); exact BK101.out)) : gb101 ≠ gb103)); have n7_ := Aside0.mk ((by rw [hg]; exact Nat.ne_of_gt (blk_lt (g := gb101) (o := .cells #[.int .u64 a0_0, .int .u32 a0_1, .bool a0_2, .string a0_3, .int .i64 a0_4, .string a0_5, .int .i64 a0_6, .int .i64 a0_7, .string a0_8] 27 (0, 0)) (by (with_reducible repeat (first | refine blk_drewN ?_ _ | refine blk_drew ?_ | refine blk_alloc ?_ _)); exact BK101.out)) : gb103 ≠ gb101)); have n8_ := Aside0.mk ((by rw [hg]; exact Nat.ne_of_lt (blk_lt (g := gb102) (o := .cells #[.int .u64 0, .int .u32 0, .bool false, .string (⟨#[]⟩ : ByteArray), .int .i64 0, .string (⟨#[]⟩ : ByteArray), .int .i64 0, .int .i64 0, .string (⟨#[]⟩ : ByteArray)] 27 (0, 0)) (by (with_reducible repeat (first | refine blk_drewN ?_ _ | refine blk_drew ?_ | refine blk_alloc ?_ _)); exact BK102.out)) : gb102 ≠ gb103)); have n9_ := Aside0.mk ((by rw [hg]; exact Nat.ne_of_gt (blk_lt (g := gb102) (o := .cells #[.int .u64 0, .int .u32 0, .bool false, .string (⟨#[]⟩ : ByteArray), .int .i64 0, .string (⟨#[]⟩ : ByteArray), .int .i64 0, .int .i64 0, .string (⟨#[]⟩ : ByteArray)] 27 (0, 0)) (by (with_reducible repeat (first | refine blk_drewN ?_ _ | refine blk_drew ?_ | refine blk_alloc ?_ _)); exact BK102.out)) : gb103 ≠ gb102)); clear BK101; clear BK102; clear HB; have BK101 := n0_; have BK102 := n1_; have HB := n2_; have BK103 := n3_; have GW103 := n4_; have GE103 := n5_; have NB101_103 := n6_; have NB103_101 := n7_; have NB102_103 := n8_; have NB103_102 := n9_; clear n0_ n1_ n2_ n3_ n4_ n5_ n6_ n7_ n8_ n9_; clear hb hbox hg; have hnb14 := NB103_101.out; have hnc14 := NB101_103.out; have hnb15 := NB103_102.out; have hnc15 := NB102_103.out; have hcz16_0 : w13.cell? ⟨gb103, 0, none⟩ = some (.int .u64 0) := (blk_cell BK103.out 0).trans rfl; have hcz16_1 : w13.cell? ⟨gb103, 1, none⟩ = some (.int .u32 0) := (blk_cell BK103.out 1).trans rfl; have hcz16_2 : w13.cell? ⟨gb103, 2, none⟩ = some (.bool false) := (blk_cell BK103.out 2).trans rfl; have hcz16_3 : w13.cell? ⟨gb103, 3, none⟩ = some (.string (⟨#[]⟩ : ByteArray)) := (blk_cell BK103.out 3).trans rfl; have hcz16_4 : w13.cell? ⟨gb103, 4, none⟩ = some (.int .i64 0) := (blk_cell BK103.out 4).trans rfl; have hcz16_5 : w13.cell? ⟨gb103, 5, none⟩ = some (.string (⟨#[]⟩ : ByteArray)) := (blk_cell BK103.out 5).trans rfl; have hcz16_6 : w13.cell? ⟨gb103, 6, none⟩ = some (.int .i64 0) := (blk_cell BK103.out 6).trans rfl; have hcz16_7 : w13.cell? ⟨gb103, 7, none⟩ = some (.int .i64 0) := (blk_cell BK103.out 7).trans rfl; have hcz16_8 : w13.cell? ⟨gb103, 8, none⟩ = some (.string (⟨#[]⟩ : ByteArray)) := (blk_cell BK103.out 8).trans rfl; have hfz16_0 := blk_frozen BK103.out 0; have hfz16_1 := blk_frozen BK103.out 1; have hfz16_2 := blk_frozen BK103.out 2; have hfz16_3 := blk_frozen BK103.out 3; have hfz16_4 := blk_frozen BK103.out 4; have hfz16_5 := blk_frozen BK103.out 5; have hfz16_6 := blk_frozen BK103.out 6; have hfz16_7 := blk_frozen BK103.out 7; have hfz16_8 := blk_frozen BK103.out 8))
      have n0_ : Aside0 ((((((((((w13.setCell ⟨gb103, 0, none⟩ (.int .u64 a0_0)).setCell ⟨gb103, 1, none⟩ (.int .u32 a0_1)).setCell ⟨gb103, 2, none⟩ (.bool a0_2)).setCell ⟨gb103, 3, none⟩ (.string a0_3)).setCell ⟨gb103, 4, none⟩ (.int .i64 a0_4)).setCell ⟨gb103, 5, none⟩ (.string a0_5)).setCell ⟨gb103, 6, none⟩ (.int .i64 a0_6)).setCell ⟨gb103, 7, none⟩ (.int .i64 a0_7)).setCell ⟨gb103, 8, none⟩ (.string a0_8)).heap[gb101]? = some (.cells #[.int .u64 a0_0, .int .u32 a0_1, .bool a0_2, .string a0_3, .int .i64 a0_4, .string a0_5, .int .i64 a0_6, .int .i64 a0_7, .string a0_8] 27 (0, 0))) := ⟨by (with_reducible repeat (first | refine blk_drewN ?_ _ | refine blk_drew ?_ | refine blk_alloc ?_ _)); refine blk_far ?_ NB101_103.out _; (with_reducible repeat (first | refine blk_drewN ?_ _ | refine blk_drew ?_ | refine blk_alloc ?_ _)); refine blk_far ?_ NB101_103.out _; (with_reducible repeat (first | refine blk_drewN ?_ _ | refine blk_drew ?_ | refine blk_alloc ?_ _)); refine blk_far ?_ NB101_103.out _; (with_reducible repeat (first | refine blk_drewN ?_ _ | refine blk_drew ?_ | refine blk_alloc ?_ _)); refine blk_far ?_ NB101_103.out _; (with_reducible repeat (first | refine blk_drewN ?_ _ | refine blk_drew ?_ | refine blk_alloc ?_ _)); refine blk_far ?_ NB101_103.out _; (with_reducible repeat (first | refine blk_drewN ?_ _ | refine blk_drew ?_ | refine blk_alloc ?_ _)); refine blk_far ?_ NB101_103.out _; (with_reducible repeat (first | refine blk_drewN ?_ _ | refine blk_drew ?_ | refine blk_alloc ?_ _)); refine blk_far ?_ NB101_103.out _; (with_reducible repeat (first | refine blk_drewN ?_ _ | refine blk_drew ?_ | refine blk_alloc ?_ _)); refine blk_far ?_ NB101_103.out _; (with_reducible repeat (first | refine blk_drewN ?_ _ | refine blk_drew ?_ | refine blk_alloc ?_ _)); refine blk_far ?_ NB101_103.out _; (with_reducible repeat (first | refine blk_drewN ?_ _ | refine blk_drew ?_ | refine blk_alloc ?_ _)); exact BK101.out⟩
      have n1_ : Aside0 ((((((((((w13.setCell ⟨gb103, 0, none⟩ (.int .u64 a0_0)).setCell ⟨gb103, 1, none⟩ (.int .u32 a0_1)).setCell ⟨gb103, 2, none⟩ (.bool a0_2)).setCell ⟨gb103, 3, none⟩ (.string a0_3)).setCell ⟨gb103, 4, none⟩ (.int .i64 a0_4)).setCell ⟨gb103, 5, none⟩ (.string a0_5)).setCell ⟨gb103, 6, none⟩ (.int .i64 a0_6)).setCell ⟨gb103, 7, none⟩ (.int .i64 a0_7)).setCell ⟨gb103, 8, none⟩ (.string a0_8)).heap[gb102]? = some (.cells #[.int .u64 0, .int .u32 0, .bool false, .string (⟨#[]⟩ : ByteArray), .int .i64 0, .string (⟨#[]⟩ : ByteArray), .int .i64 0, .int .i64 0, .string (⟨#[]⟩ : ByteArray)] 27 (0, 0))) := ⟨by (with_reducible repeat (first | refine blk_drewN ?_ _ | refine blk_drew ?_ | refine blk_alloc ?_ _)); refine blk_far ?_ NB102_103.out _; (with_reducible repeat (first | refine blk_drewN ?_ _ | refine blk_drew ?_ | refine blk_alloc ?_ _)); refine blk_far ?_ NB102_103.out _; (with_reducible repeat (first | refine blk_drewN ?_ _ | refine blk_drew ?_ | refine blk_alloc ?_ _)); refine blk_far ?_ NB102_103.out _; (with_reducible repeat (first | refine blk_drewN ?_ _ | refine blk_drew ?_ | refine blk_alloc ?_ _)); refine blk_far ?_ NB102_103.out _; (with_reducible repeat (first | refine blk_drewN ?_ _ | refine blk_drew ?_ | refine blk_alloc ?_ _)); refine blk_far ?_ NB102_103.out _; (with_reducible repeat (first | refine blk_drewN ?_ _ | refine blk_drew ?_ | refine blk_alloc ?_ _)); refine blk_far ?_ NB102_103.out _; (with_reducible repeat (first | refine blk_drewN ?_ _ | refine blk_drew ?_ | refine blk_alloc ?_ _)); refine blk_far ?_ NB102_103.out _; (with_reducible repeat (first | refine blk_drewN ?_ _ | refine blk_drew ?_ | refine blk_alloc ?_ _)); refine blk_far ?_ NB102_103.out _; (with_reducible repeat (first | refine blk_drewN ?_ _ | refine blk_drew ?_ | refine blk_alloc ?_ _)); refine blk_far ?_ NB102_103.out _; (with_reducible repeat (first | refine blk_drewN ?_ _ | refine blk_drew ?_ | refine blk_alloc ?_ _)); exact BK102.out⟩
      have n2_ : Aside0 ((((((((((w13.setCell ⟨gb103, 0, none⟩ (.int .u64 a0_0)).setCell ⟨gb103, 1, none⟩ (.int .u32 a0_1)).setCell ⟨gb103, 2, none⟩ (.bool a0_2)).setCell ⟨gb103, 3, none⟩ (.string a0_3)).setCell ⟨gb103, 4, none⟩ (.int .i64 a0_4)).setCell ⟨gb103, 5, none⟩ (.string a0_5)).setCell ⟨gb103, 6, none⟩ (.int .i64 a0_6)).setCell ⟨gb103, 7, none⟩ (.int .i64 a0_7)).setCell ⟨gb103, 8, none⟩ (.string a0_8)).heap[gb103]? = some (.cells #[.int .u64 a0_0, .int .u32 a0_1, .bool a0_2, .string a0_3, .int .i64 a0_4, .string a0_5, .int .i64 a0_6, .int .i64 a0_7, .string a0_8] 27 (0, 0))) := ⟨by (with_reducible repeat (first | refine blk_drewN ?_ _ | refine blk_drew ?_ | refine blk_alloc ?_ _)); refine blk_put (cs := #[.int .u64 a0_0, .int .u32 a0_1, .bool a0_2, .string a0_3, .int .i64 a0_4, .string a0_5, .int .i64 a0_6, .int .i64 a0_7, .string (⟨#[]⟩ : ByteArray)]) ?_ 8 _ rfl; (with_reducible repeat (first | refine blk_drewN ?_ _ | refine blk_drew ?_ | refine blk_alloc ?_ _)); refine blk_put (cs := #[.int .u64 a0_0, .int .u32 a0_1, .bool a0_2, .string a0_3, .int .i64 a0_4, .string a0_5, .int .i64 a0_6, .int .i64 0, .string (⟨#[]⟩ : ByteArray)]) ?_ 7 _ rfl; (with_reducible repeat (first | refine blk_drewN ?_ _ | refine blk_drew ?_ | refine blk_alloc ?_ _)); refine blk_put (cs := #[.int .u64 a0_0, .int .u32 a0_1, .bool a0_2, .string a0_3, .int .i64 a0_4, .string a0_5, .int .i64 0, .int .i64 0, .string (⟨#[]⟩ : ByteArray)]) ?_ 6 _ rfl; (with_reducible repeat (first | refine blk_drewN ?_ _ | refine blk_drew ?_ | refine blk_alloc ?_ _)); refine blk_put (cs := #[.int .u64 a0_0, .int .u32 a0_1, .bool a0_2, .string a0_3, .int .i64 a0_4, .string (⟨#[]⟩ : ByteArray), .int .i64 0, .int .i64 0, .string (⟨#[]⟩ : ByteArray)]) ?_ 5 _ rfl; (with_reducible repeat (first | refine blk_drewN ?_ _ | refine blk_drew ?_ | refine blk_alloc ?_ _)); refine blk_put (cs := #[.int .u64 a0_0, .int .u32 a0_1, .bool a0_2, .string a0_3, .int .i64 0, .string (⟨#[]⟩ : ByteArray), .int .i64 0, .int .i64 0, .string (⟨#[]⟩ : ByteArray)]) ?_ 4 _ rfl; (with_reducible repeat (first | refine blk_drewN ?_ _ | refine blk_drew ?_ | refine blk_alloc ?_ _)); refine blk_put (cs := #[.int .u64 a0_0, .int .u32 a0_1, .bool a0_2, .string (⟨#[]⟩ : ByteArray), .int .i64 0, .string (⟨#[]⟩ : ByteArray), .int .i64 0, .int .i64 0, .string (⟨#[]⟩ : ByteArray)]) ?_ 3 _ rfl; (with_reducible repeat (first | refine blk_drewN ?_ _ | refine blk_drew ?_ | refine blk_alloc ?_ _)); refine blk_put (cs := #[.int .u64 a0_0, .int .u32 a0_1, .bool false, .string (⟨#[]⟩ : ByteArray), .int .i64 0, .string (⟨#[]⟩ : ByteArray), .int .i64 0, .int .i64 0, .string (⟨#[]⟩ : ByteArray)]) ?_ 2 _ rfl; (with_reducible repeat (first | refine blk_drewN ?_ _ | refine blk_drew ?_ | refine blk_alloc ?_ _)); refine blk_put (cs := #[.int .u64 a0_0, .int .u32 0, .bool false, .string (⟨#[]⟩ : ByteArray), .int .i64 0, .string (⟨#[]⟩ : ByteArray), .int .i64 0, .int .i64 0, .string (⟨#[]⟩ : ByteArray)]) ?_ 1 _ rfl; (with_reducible repeat (first | refine blk_drewN ?_ _ | refine blk_drew ?_ | refine blk_alloc ?_ _)); refine blk_put (cs := #[.int .u64 0, .int .u32 0, .bool false, .string (⟨#[]⟩ : ByteArray), .int .i64 0, .string (⟨#[]⟩ : ByteArray), .int .i64 0, .int .i64 0, .string (⟨#[]⟩ : ByteArray)]) ?_ 0 _ rfl; (with_reducible repeat (first | refine blk_drewN ?_ _ | refine blk_drew ?_ | refine blk_alloc ?_ _)); exact BK103.out⟩
      have n3_ : Aside0 (Below w.heap.size w (((((((((w13.setCell ⟨gb103, 0, none⟩ (.int .u64 a0_0)).setCell ⟨gb103, 1, none⟩ (.int .u32 a0_1)).setCell ⟨gb103, 2, none⟩ (.bool a0_2)).setCell ⟨gb103, 3, none⟩ (.string a0_3)).setCell ⟨gb103, 4, none⟩ (.int .i64 a0_4)).setCell ⟨gb103, 5, none⟩ (.string a0_5)).setCell ⟨gb103, 6, none⟩ (.int .i64 a0_6)).setCell ⟨gb103, 7, none⟩ (.int .i64 a0_7)).setCell ⟨gb103, 8, none⟩ (.string a0_8))) := ⟨by repeat (first | (with_reducible first | exact HB.out | apply below_alloc | apply pw_below_drewN | apply below_drew1 | refine below_set ?_ GE101.out | refine below_set ?_ GE102.out | refine below_set ?_ GE103.out) | exact HB.out)⟩
      (try clear BK101)
      (try clear BK102)
      (try clear BK103)
      (try clear HB)
      generalize (((((((((w13.setCell ⟨gb103, 0, none⟩ (.int .u64 a0_0)).setCell ⟨gb103, 1, none⟩ (.int .u32 a0_1)).setCell ⟨gb103, 2, none⟩ (.bool a0_2)).setCell ⟨gb103, 3, none⟩ (.string a0_3)).setCell ⟨gb103, 4, none⟩ (.int .i64 a0_4)).setCell ⟨gb103, 5, none⟩ (.string a0_5)).setCell ⟨gb103, 6, none⟩ (.int .i64 a0_6)).setCell ⟨gb103, 7, none⟩ (.int .i64 a0_7)).setCell ⟨gb103, 8, none⟩ (.string a0_8)) = w17 at n0_ n1_ n2_ n3_ ⊢
      have BK101 := n0_
      have BK102 := n1_
      have BK103 := n2_
      have HB := n3_
      clear n0_ n1_ n2_ n3_
      have n0_ := Aside0.mk (blk_drew BK101.out)
      have n1_ := Aside0.mk (blk_drew BK102.out)
      have n2_ := Aside0.mk (blk_drew BK103.out)
      have n3_ := Aside0.mk (below_drew1 HB.out)
      clear BK101
      clear BK102
      clear BK103
      clear HB
      have BK101 := n0_
      have BK102 := n1_
      have BK103 := n2_
      have HB := n3_
      clear n0_ n1_ n2_ n3_
      refine start_ (n := 15) (S := fun w' => w'.cell? ⟨gb101, 0, none⟩ = some (.int .u64 a0_0) ∧ w'.cell? ⟨gb101, 1, none⟩ = some (.int .u32 a0_1) ∧ w'.cell? ⟨gb101, 2, none⟩ = some (.bool a0_2) ∧ w'.cell? ⟨gb101, 3, none⟩ = some (.string a0_3) ∧ w'.cell? ⟨gb101, 4, none⟩ = some (.int .i64 a0_4) ∧ w'.cell? ⟨gb101, 5, none⟩ = some (.string a0_5) ∧ w'.cell? ⟨gb101, 6, none⟩ = some (.int .i64 a0_6) ∧ w'.cell? ⟨gb101, 7, none⟩ = some (.int .i64 a0_7) ∧ w'.cell? ⟨gb101, 8, none⟩ = some (.string a0_8)) (ds := []) #[false, false, false, false, false, false, false, false, false, false, false, false, false, false, false] (by kernel_rfl) rfl rfl ⟨(blk_cell BK101.out 0).trans rfl, (blk_cell BK101.out 1).trans rfl, (blk_cell BK101.out 2).trans rfl, (blk_cell BK101.out 3).trans rfl, (blk_cell BK101.out 4).trans rfl, (blk_cell BK101.out 5).trans rfl, (blk_cell BK101.out 6).trans rfl, (blk_cell BK101.out 7).trans rfl, (blk_cell BK101.out 8).trans rfl⟩ (fun hHeld => ?_); refine with_tabW lodestonelaw12_near.tab2 lodestonelaw12_near.bits2 (fun HT_ HW_ => ?_)
      generalize w17.drew = w18 at BK101 BK102 BK103 HB hHeld ⊢
      refine pure_ (i := 0) (N := some 7) (v := ?_) (a' := ?_) #[true, false, false, false, false, false, false, false, false, false, false, false, false, false, false] rfl rfl (any_of HT_.out (by kernel_rfl)) (fun _ _ _ h => h) (Or.inl ⟨by rfl, ?_⟩) ?_ ?_
      rotate_left
      · intro w'
        go_simp
        with_reducible rfl
      rotate_left
      · simp only [Act.put, List.setIfInBounds_toArray, List.set_cons_zero, List.set_cons_succ, i64_w, i32_w]
        rfl
      refine pure_ (i := 3) (N := some 10) (v := ?_) (a' := ?_) #[true, false, false, true, false, false, false, false, false, false, false, false, false, false, false] rfl rfl (any_of HT_.out (by kernel_rfl)) (fun _ _ _ h => h) (Or.inl ⟨by rfl, ?_⟩) ?_ ?_
      rotate_left
      · intro w'
        go_simp
        with_reducible rfl
      rotate_left
      · simp only [Act.put, List.setIfInBounds_toArray, List.set_cons_zero, List.set_cons_succ, i64_w, i32_w]
        rfl
      refine pure_ (i := 6) (N := some 13) (v := ?_) (a' := ?_) #[true, false, false, true, false, false, true, false, false, false, false, false, false, false, false] rfl rfl (any_of HT_.out (by kernel_rfl)) (fun _ _ _ h => h) (Or.inl ⟨by rfl, ?_⟩) ?_ ?_
      rotate_left
      · intro w'
        go_simp
        with_reducible rfl
      rotate_left
      · simp only [Act.put, List.setIfInBounds_toArray, List.set_cons_zero, List.set_cons_succ, i64_w, i32_w]
        rfl
      refine take_ (i := 1) (N := some 8) (v := ?_) (a' := ?_) #[true, true, false, true, false, false, true, false, false, false, false, false, false, false, false] rfl rfl (take_ofW HT_.out HW_.out (by kernel_rfl)) (fun _ _ _ h => h) (Or.inl ⟨by rfl, ?_⟩) hHeld ?_ ?_
      rotate_left
      · rintro w' ⟨s0, s1, s2, s3, s4, s5, s6, s7, s8⟩
        go_simp
        with_reducible rfl
      rotate_left
      · simp only [Act.put, List.setIfInBounds_toArray, List.set_cons_zero, List.set_cons_succ, i64_w, i32_w]
        rfl
      refine pure_ (i := 2) (N := some 9) (v := ?_) (a' := ?_) #[true, true, true, true, false, false, true, false, false, false, false, false, false, false, false] rfl rfl (any_of HT_.out (by kernel_rfl)) (fun _ _ _ h => h) (Or.inl ⟨by rfl, ?_⟩) ?_ ?_
      rotate_left
      · intro w'
        go_simp
        with_reducible rfl
      rotate_left
      · simp only [Act.put, List.setIfInBounds_toArray, List.set_cons_zero, List.set_cons_succ, i64_w, i32_w]
        rfl
      refine pure_ (i := 9) (N := some 16) (v := ?_) (a' := ?_) #[true, true, true, true, false, false, true, false, false, true, false, false, false, false, false] rfl rfl (any_of HT_.out (by kernel_rfl)) (fun _ _ _ h => h) (Or.inl ⟨by rfl, ?_⟩) ?_ ?_
      rotate_left
      · intro w'
        go_simp
        with_reducible rfl
      rotate_left
      · simp only [Act.put, List.setIfInBounds_toArray, List.set_cons_zero, List.set_cons_succ, i64_w, i32_w]
        rfl
      refine take_ (i := 4) (N := some 11) (v := ?_) (a' := ?_) #[true, true, true, true, true, false, true, false, false, true, false, false, false, false, false] rfl rfl (take_ofW HT_.out HW_.out (by kernel_rfl)) (fun _ _ _ h => h) (Or.inl ⟨by rfl, ?_⟩) hHeld ?_ ?_
      rotate_left
      · rintro w' ⟨s0, s1, s2, s3, s4, s5, s6, s7, s8⟩
        go_simp
        with_reducible rfl
      rotate_left
      · simp only [Act.put, List.setIfInBounds_toArray, List.set_cons_zero, List.set_cons_succ, i64_w, i32_w]
        rfl
      refine pure_ (i := 5) (N := some 12) (v := ?_) (a' := ?_) #[true, true, true, true, true, true, true, false, false, true, false, false, false, false, false] rfl rfl (any_of HT_.out (by kernel_rfl)) (fun _ _ _ h => h) (Or.inl ⟨by rfl, ?_⟩) ?_ ?_
      rotate_left
      · intro w'
        go_simp
        with_reducible rfl
      rotate_left
      · simp only [Act.put, List.setIfInBounds_toArray, List.set_cons_zero, List.set_cons_succ, i64_w, i32_w]
        rfl
      refine take_ (i := 7) (N := some 14) (v := ?_) (a' := ?_) #[true, true, true, true, true, true, true, true, false, true, false, false, false, false, false] rfl rfl (take_ofW HT_.out HW_.out (by kernel_rfl)) (fun _ _ _ h => h) (Or.inl ⟨by rfl, ?_⟩) hHeld ?_ ?_
      rotate_left
      · rintro w' ⟨s0, s1, s2, s3, s4, s5, s6, s7, s8⟩
        go_simp
        with_reducible rfl
      rotate_left
      · simp only [Act.put, List.setIfInBounds_toArray, List.set_cons_zero, List.set_cons_succ, i64_w, i32_w]
        rfl
      refine one_ (i := 8) (N := some 15) #[true, true, true, true, true, true, true, true, true, true, false, false, false, false, false] rfl rfl (one_of HT_.out (by kernel_rfl)) (by decide) (fun K hK => ?_)
      refine goes_ Try.func13 (by kernel_rfl) rfl #[.string a0_8] (by rfl) rfl rfl (by (try simp only [List.map_toArray, List.map_cons, List.map_nil]); first | done | rfl | (simp only [List.length_drop, List.length_take]; rfl)) ?_
      with_reducible refine (lodestonelaw12_sum.calls a0_8 t104 _ A3.out).mono ?_
      rintro e w' ⟨rfl, ⟨nd, rfl⟩⟩
      refine ⟨_, rfl, ?_⟩
      refine hK.out _ _ ⟨(blk_cell BK101.out 0).trans rfl, (blk_cell BK101.out 1).trans rfl, (blk_cell BK101.out 2).trans rfl, (blk_cell BK101.out 3).trans rfl, (blk_cell BK101.out 4).trans rfl, (blk_cell BK101.out 5).trans rfl, (blk_cell BK101.out 6).trans rfl, (blk_cell BK101.out 7).trans rfl, (blk_cell BK101.out 8).trans rfl⟩ (fun hHeld => ?_)
      clear hK K
      refine norm_ (a' := ?_) ?_ ?_
      rotate_left
      · show Act.put _ (some 15) _ = _
        simp only [Act.put, List.setIfInBounds_toArray, List.set_cons_zero, List.set_cons_succ, i64_w, i32_w]
        rfl
      refine one_ (i := 10) (N := none) #[true, true, true, true, true, true, true, true, true, true, true, false, false, false, false] rfl rfl (one_of HT_.out (by kernel_rfl)) (by decide) (fun K hK => ?_)
      have hs19 : w18.cell? ⟨gb103, 6, none⟩ = some (.int .i64 a0_6) := (blk_cell BK103.out 6).trans rfl
      have hfs19 := blk_frozen BK103.out 6
      have hns19_0 := NB101_103.out
      have hns19_1 := NB102_103.out
      have hms19_0 := NB103_101.out
      have hms19_1 := NB103_102.out
      refine skip_ (w1 := ?_) (by rfl) rfl ?_ ?_
      rotate_left
      · go_simp
        rfl
      refine hK.out _ _ ⟨((cell_far (p := ⟨gb103, _, none⟩) NB101_103.out _).trans (hHeld.1)), ((cell_far (p := ⟨gb103, _, none⟩) NB101_103.out _).trans (hHeld.2.1)), ((cell_far (p := ⟨gb103, _, none⟩) NB101_103.out _).trans (hHeld.2.2.1)), ((cell_far (p := ⟨gb103, _, none⟩) NB101_103.out _).trans (hHeld.2.2.2.1)), ((cell_far (p := ⟨gb103, _, none⟩) NB101_103.out _).trans (hHeld.2.2.2.2.1)), ((cell_far (p := ⟨gb103, _, none⟩) NB101_103.out _).trans (hHeld.2.2.2.2.2.1)), ((cell_far (p := ⟨gb103, _, none⟩) NB101_103.out _).trans (hHeld.2.2.2.2.2.2.1)), ((cell_far (p := ⟨gb103, _, none⟩) NB101_103.out _).trans (hHeld.2.2.2.2.2.2.2.1)), ((cell_far (p := ⟨gb103, _, none⟩) NB101_103.out _).trans (hHeld.2.2.2.2.2.2.2.2))⟩ (fun hHeld => ?_)
      clear hK K
      refine pure_ (i := 11) (N := some 17) (v := ?_) (a' := ?_) #[true, true, true, true, true, true, true, true, true, true, true, true, false, false, false] rfl rfl (any_of HT_.out (by kernel_rfl)) (fun _ _ _ h => h) (Or.inl ⟨by rfl, ?_⟩) ?_ ?_
      rotate_left
      · intro w'
        go_simp
        with_reducible rfl
      rotate_left
      · simp only [Act.put, List.setIfInBounds_toArray, List.set_cons_zero, List.set_cons_succ, i64_w, i32_w]
        rfl
      refine one_ (i := 12) (N := none) #[true, true, true, true, true, true, true, true, true, true, true, true, true, false, false] rfl rfl (one_of HT_.out (by kernel_rfl)) (by decide) (fun K hK => ?_)
      have hs20 : w18.cell? ⟨gb103, 7, none⟩ = some (.int .i64 a0_7) := (blk_cell BK103.out 7).trans rfl
      have hfs20 := blk_frozen BK103.out 7
      have hns20_0 := NB101_103.out
      have hns20_1 := NB102_103.out
      have hms20_0 := NB103_101.out
      have hms20_1 := NB103_102.out
      refine skip_ (w1 := ?_) (by rfl) rfl ?_ ?_
      rotate_left
      · go_simp
        rfl
      refine hK.out _ _ ⟨((cell_far (p := ⟨gb103, _, none⟩) NB101_103.out _).trans (hHeld.1)), ((cell_far (p := ⟨gb103, _, none⟩) NB101_103.out _).trans (hHeld.2.1)), ((cell_far (p := ⟨gb103, _, none⟩) NB101_103.out _).trans (hHeld.2.2.1)), ((cell_far (p := ⟨gb103, _, none⟩) NB101_103.out _).trans (hHeld.2.2.2.1)), ((cell_far (p := ⟨gb103, _, none⟩) NB101_103.out _).trans (hHeld.2.2.2.2.1)), ((cell_far (p := ⟨gb103, _, none⟩) NB101_103.out _).trans (hHeld.2.2.2.2.2.1)), ((cell_far (p := ⟨gb103, _, none⟩) NB101_103.out _).trans (hHeld.2.2.2.2.2.2.1)), ((cell_far (p := ⟨gb103, _, none⟩) NB101_103.out _).trans (hHeld.2.2.2.2.2.2.2.1)), ((cell_far (p := ⟨gb103, _, none⟩) NB101_103.out _).trans (hHeld.2.2.2.2.2.2.2.2))⟩ (fun hHeld => ?_)
      clear hK K
      refine pure_ (i := 13) (N := some 18) (v := ?_) (a' := ?_) #[true, true, true, true, true, true, true, true, true, true, true, true, true, true, false] rfl rfl (any_of HT_.out (by kernel_rfl)) (fun _ _ _ h => h) (Or.inl ⟨by rfl, ?_⟩) ?_ ?_
      rotate_left
      · intro w'
        go_simp
        with_reducible rfl
      rotate_left
      · simp only [Act.put, List.setIfInBounds_toArray, List.set_cons_zero, List.set_cons_succ, i64_w, i32_w]
        rfl
      refine one_ (i := 14) (N := none) #[true, true, true, true, true, true, true, true, true, true, true, true, true, true, true] rfl rfl (one_of HT_.out (by kernel_rfl)) (by decide) (fun K hK => ?_)
      have hs21 : w18.cell? ⟨gb103, 8, none⟩ = some (.string a0_8) := (blk_cell BK103.out 8).trans rfl
      have hfs21 := blk_frozen BK103.out 8
      have hns21_0 := NB101_103.out
      have hns21_1 := NB102_103.out
      have hms21_0 := NB103_101.out
      have hms21_1 := NB103_102.out
      refine skip_ (w1 := ?_) (by rfl) rfl ?_ ?_
      rotate_left
      · go_simp
        rfl
      refine hK.out _ _ ⟨((cell_far (p := ⟨gb103, _, none⟩) NB101_103.out _).trans (hHeld.1)), ((cell_far (p := ⟨gb103, _, none⟩) NB101_103.out _).trans (hHeld.2.1)), ((cell_far (p := ⟨gb103, _, none⟩) NB101_103.out _).trans (hHeld.2.2.1)), ((cell_far (p := ⟨gb103, _, none⟩) NB101_103.out _).trans (hHeld.2.2.2.1)), ((cell_far (p := ⟨gb103, _, none⟩) NB101_103.out _).trans (hHeld.2.2.2.2.1)), ((cell_far (p := ⟨gb103, _, none⟩) NB101_103.out _).trans (hHeld.2.2.2.2.2.1)), ((cell_far (p := ⟨gb103, _, none⟩) NB101_103.out _).trans (hHeld.2.2.2.2.2.2.1)), ((cell_far (p := ⟨gb103, _, none⟩) NB101_103.out _).trans (hHeld.2.2.2.2.2.2.2.1)), ((cell_far (p := ⟨gb103, _, none⟩) NB101_103.out _).trans (hHeld.2.2.2.2.2.2.2.2))⟩ (fun hHeld => ?_)
      clear hK K
      refine done_ (done_of HT_.out (by kernel_rfl)) ?_
      have BK101 := Aside0.mk (blk_drewN BK101.out nd)
      have BK102 := Aside0.mk (blk_drewN BK102.out nd)
      have BK103 := Aside0.mk (blk_drewN BK103.out nd)
      have HB := Aside0.mk (pw_below_drewN HB.out nd)
      generalize w18.drewN nd = w18 at BK101 BK102 BK103 HB ⊢
      try go_wp2
      have n0_ : Aside0 ((((w18.setCell ⟨gb103, 6, none⟩ (.int .i64 (Go.bits .and .i64 a0_6 4095))).setCell ⟨gb103, 7, none⟩ (.int .i64 (Go.bits .and .i64 a0_7 4095))).setCell ⟨gb103, 8, none⟩ (.string t104)).heap[gb101]? = some (.cells #[.int .u64 a0_0, .int .u32 a0_1, .bool a0_2, .string a0_3, .int .i64 a0_4, .string a0_5, .int .i64 a0_6, .int .i64 a0_7, .string a0_8] 27 (0, 0))) := ⟨by (with_reducible repeat (first | refine blk_drewN ?_ _ | refine blk_drew ?_ | refine blk_alloc ?_ _)); refine blk_far ?_ NB101_103.out _; (with_reducible repeat (first | refine blk_drewN ?_ _ | refine blk_drew ?_ | refine blk_alloc ?_ _)); refine blk_far ?_ NB101_103.out _; (with_reducible repeat (first | refine blk_drewN ?_ _ | refine blk_drew ?_ | refine blk_alloc ?_ _)); refine blk_far ?_ NB101_103.out _; (with_reducible repeat (first | refine blk_drewN ?_ _ | refine blk_drew ?_ | refine blk_alloc ?_ _)); exact BK101.out⟩
      have n1_ : Aside0 ((((w18.setCell ⟨gb103, 6, none⟩ (.int .i64 (Go.bits .and .i64 a0_6 4095))).setCell ⟨gb103, 7, none⟩ (.int .i64 (Go.bits .and .i64 a0_7 4095))).setCell ⟨gb103, 8, none⟩ (.string t104)).heap[gb102]? = some (.cells #[.int .u64 0, .int .u32 0, .bool false, .string (⟨#[]⟩ : ByteArray), .int .i64 0, .string (⟨#[]⟩ : ByteArray), .int .i64 0, .int .i64 0, .string (⟨#[]⟩ : ByteArray)] 27 (0, 0))) := ⟨by (with_reducible repeat (first | refine blk_drewN ?_ _ | refine blk_drew ?_ | refine blk_alloc ?_ _)); refine blk_far ?_ NB102_103.out _; (with_reducible repeat (first | refine blk_drewN ?_ _ | refine blk_drew ?_ | refine blk_alloc ?_ _)); refine blk_far ?_ NB102_103.out _; (with_reducible repeat (first | refine blk_drewN ?_ _ | refine blk_drew ?_ | refine blk_alloc ?_ _)); refine blk_far ?_ NB102_103.out _; (with_reducible repeat (first | refine blk_drewN ?_ _ | refine blk_drew ?_ | refine blk_alloc ?_ _)); exact BK102.out⟩
      have n2_ : Aside0 ((((w18.setCell ⟨gb103, 6, none⟩ (.int .i64 (Go.bits .and .i64 a0_6 4095))).setCell ⟨gb103, 7, none⟩ (.int .i64 (Go.bits .and .i64 a0_7 4095))).setCell ⟨gb103, 8, none⟩ (.string t104)).heap[gb103]? = some (.cells #[.int .u64 a0_0, .int .u32 a0_1, .bool a0_2, .string a0_3, .int .i64 a0_4, .string a0_5, .int .i64 (Go.bits .and .i64 a0_6 4095), .int .i64 (Go.bits .and .i64 a0_7 4095), .string t104] 27 (0, 0))) := ⟨by (with_reducible repeat (first | refine blk_drewN ?_ _ | refine blk_drew ?_ | refine blk_alloc ?_ _)); refine blk_put (cs := #[.int .u64 a0_0, .int .u32 a0_1, .bool a0_2, .string a0_3, .int .i64 a0_4, .string a0_5, .int .i64 (Go.bits .and .i64 a0_6 4095), .int .i64 (Go.bits .and .i64 a0_7 4095), .string a0_8]) ?_ 8 _ rfl; (with_reducible repeat (first | refine blk_drewN ?_ _ | refine blk_drew ?_ | refine blk_alloc ?_ _)); refine blk_put (cs := #[.int .u64 a0_0, .int .u32 a0_1, .bool a0_2, .string a0_3, .int .i64 a0_4, .string a0_5, .int .i64 (Go.bits .and .i64 a0_6 4095), .int .i64 a0_7, .string a0_8]) ?_ 7 _ rfl; (with_reducible repeat (first | refine blk_drewN ?_ _ | refine blk_drew ?_ | refine blk_alloc ?_ _)); refine blk_put (cs := #[.int .u64 a0_0, .int .u32 a0_1, .bool a0_2, .string a0_3, .int .i64 a0_4, .string a0_5, .int .i64 a0_6, .int .i64 a0_7, .string a0_8]) ?_ 6 _ rfl; (with_reducible repeat (first | refine blk_drewN ?_ _ | refine blk_drew ?_ | refine blk_alloc ?_ _)); exact BK103.out⟩
      have n3_ : Aside0 (Below w.heap.size w (((w18.setCell ⟨gb103, 6, none⟩ (.int .i64 (Go.bits .and .i64 a0_6 4095))).setCell ⟨gb103, 7, none⟩ (.int .i64 (Go.bits .and .i64 a0_7 4095))).setCell ⟨gb103, 8, none⟩ (.string t104))) := ⟨by repeat (first | (with_reducible first | exact HB.out | apply below_alloc | apply pw_below_drewN | apply below_drew1 | refine below_set ?_ GE101.out | refine below_set ?_ GE102.out | refine below_set ?_ GE103.out) | exact HB.out)⟩
      (try clear BK101)
      (try clear BK102)
      (try clear BK103)
      (try clear HB)
      generalize (((w18.setCell ⟨gb103, 6, none⟩ (.int .i64 (Go.bits .and .i64 a0_6 4095))).setCell ⟨gb103, 7, none⟩ (.int .i64 (Go.bits .and .i64 a0_7 4095))).setCell ⟨gb103, 8, none⟩ (.string t104)) = w22 at n0_ n1_ n2_ n3_ ⊢
      have BK101 := n0_
      have BK102 := n1_
      have BK103 := n2_
      have HB := n3_
      clear n0_ n1_ n2_ n3_
      (try (rw [drewN_self w22]; generalize hq_ : World.drewN w22 _ = w22; have n0_ : Aside0 (w22.heap[gb101]? = some (.cells #[.int .u64 a0_0, .int .u32 a0_1, .bool a0_2, .string a0_3, .int .i64 a0_4, .string a0_5, .int .i64 a0_6, .int .i64 a0_7, .string a0_8] 27 (0, 0))) := ⟨by rw [← hq_]; exact (by (with_reducible repeat (first | refine blk_drewN ?_ _ | refine blk_drew ?_ | refine blk_alloc ?_ _)); exact BK101.out)⟩; have n1_ : Aside0 (w22.heap[gb102]? = some (.cells #[.int .u64 0, .int .u32 0, .bool false, .string (⟨#[]⟩ : ByteArray), .int .i64 0, .string (⟨#[]⟩ : ByteArray), .int .i64 0, .int .i64 0, .string (⟨#[]⟩ : ByteArray)] 27 (0, 0))) := ⟨by rw [← hq_]; exact (by (with_reducible repeat (first | refine blk_drewN ?_ _ | refine blk_drew ?_ | refine blk_alloc ?_ _)); exact BK102.out)⟩; have n2_ : Aside0 (w22.heap[gb103]? = some (.cells #[.int .u64 a0_0, .int .u32 a0_1, .bool a0_2, .string a0_3, .int .i64 a0_4, .string a0_5, .int .i64 (Go.bits .and .i64 a0_6 4095), .int .i64 (Go.bits .and .i64 a0_7 4095), .string t104] 27 (0, 0))) := ⟨by rw [← hq_]; exact (by (with_reducible repeat (first | refine blk_drewN ?_ _ | refine blk_drew ?_ | refine blk_alloc ?_ _)); exact BK103.out)⟩; have n3_ : Aside0 (Below w.heap.size w w22) := ⟨by rw [← hq_]; exact (by repeat (first | (with_reducible first | exact HB.out | apply below_alloc | apply pw_below_drewN | apply below_drew1 | refine below_set ?_ GE101.out | refine below_set ?_ GE102.out | refine below_set ?_ GE103.out) | exact HB.out))⟩; clear BK101 BK102 BK103 HB hq_; have BK101 := n0_; have BK102 := n1_; have BK103 := n2_; have HB := n3_; clear n0_ n1_ n2_ n3_))
      have n0_ := Aside0.mk (blk_drew BK101.out)
      have n1_ := Aside0.mk (blk_drew BK102.out)
      have n2_ := Aside0.mk (blk_drew BK103.out)
      have n3_ := Aside0.mk (below_drew1 HB.out)
      clear BK101
      clear BK102
      clear BK103
      clear HB
      have BK101 := n0_
      have BK102 := n1_
      have BK103 := n2_
      have HB := n3_
      clear n0_ n1_ n2_ n3_
      refine start_ (n := 11) (S := fun w' => w'.cell? ⟨gb101, 0, none⟩ = some (.int .u64 a0_0) ∧ w'.cell? ⟨gb101, 1, none⟩ = some (.int .u32 a0_1) ∧ w'.cell? ⟨gb101, 2, none⟩ = some (.bool a0_2) ∧ w'.cell? ⟨gb101, 3, none⟩ = some (.string a0_3) ∧ w'.cell? ⟨gb101, 4, none⟩ = some (.int .i64 a0_4) ∧ w'.cell? ⟨gb101, 5, none⟩ = some (.string a0_5) ∧ w'.cell? ⟨gb101, 6, none⟩ = some (.int .i64 a0_6) ∧ w'.cell? ⟨gb101, 7, none⟩ = some (.int .i64 a0_7) ∧ w'.cell? ⟨gb101, 8, none⟩ = some (.string a0_8)) (ds := []) #[false, false, false, false, false, false, false, false, false, false, false] (by kernel_rfl) rfl rfl ⟨(blk_cell BK101.out 0).trans rfl, (blk_cell BK101.out 1).trans rfl, (blk_cell BK101.out 2).trans rfl, (blk_cell BK101.out 3).trans rfl, (blk_cell BK101.out 4).trans rfl, (blk_cell BK101.out 5).trans rfl, (blk_cell BK101.out 6).trans rfl, (blk_cell BK101.out 7).trans rfl, (blk_cell BK101.out 8).trans rfl⟩ (fun hHeld => ?_); refine with_tabW lodestonelaw12_near.tab3 lodestonelaw12_near.bits3 (fun HT_ HW_ => ?_)
      generalize w22.drew = w23 at BK101 BK102 BK103 HB hHeld ⊢
      refine pure_ (i := 0) (N := some 19) (v := ?_) (a' := ?_) #[true, false, false, false, false, false, false, false, false, false, false] rfl rfl (any_of HT_.out (by kernel_rfl)) (fun _ _ _ h => h) (Or.inl ⟨by rfl, ?_⟩) ?_ ?_
      rotate_left
      · intro w'
        go_simp
        with_reducible rfl
      rotate_left
      · simp only [Act.put, List.setIfInBounds_toArray, List.set_cons_zero, List.set_cons_succ, i64_w, i32_w]
        rfl
      refine pure_ (i := 1) (N := some 20) (v := ?_) (a' := ?_) #[true, true, false, false, false, false, false, false, false, false, false] rfl rfl (any_of HT_.out (by kernel_rfl)) (fun _ _ _ h => h) (Or.inl ⟨by rfl, ?_⟩) ?_ ?_
      rotate_left
      · intro w'
        go_simp
        with_reducible rfl
      rotate_left
      · simp only [Act.put, List.setIfInBounds_toArray, List.set_cons_zero, List.set_cons_succ, i64_w, i32_w]
        rfl
      refine pure_ (i := 4) (N := some 23) (v := ?_) (a' := ?_) #[true, true, false, false, true, false, false, false, false, false, false] rfl rfl (any_of HT_.out (by kernel_rfl)) (fun _ _ _ h => h) (Or.inl ⟨by rfl, ?_⟩) ?_ ?_
      rotate_left
      · intro w'
        go_simp
        with_reducible rfl
      rotate_left
      · simp only [Act.put, List.setIfInBounds_toArray, List.set_cons_zero, List.set_cons_succ, i64_w, i32_w]
        rfl
      refine pure_ (i := 5) (N := some 24) (v := ?_) (a' := ?_) #[true, true, false, false, true, true, false, false, false, false, false] rfl rfl (any_of HT_.out (by kernel_rfl)) (fun _ _ _ h => h) (Or.inl ⟨by rfl, ?_⟩) ?_ ?_
      rotate_left
      · intro w'
        go_simp
        with_reducible rfl
      rotate_left
      · simp only [Act.put, List.setIfInBounds_toArray, List.set_cons_zero, List.set_cons_succ, i64_w, i32_w]
        rfl
      refine take_ (i := 2) (N := some 21) (v := ?_) (a' := ?_) #[true, true, true, false, true, true, false, false, false, false, false] rfl rfl (take_ofW HT_.out HW_.out (by kernel_rfl)) (fun _ _ _ h => h) (Or.inl ⟨by rfl, ?_⟩) hHeld ?_ ?_
      rotate_left
      · rintro w' ⟨s0, s1, s2, s3, s4, s5, s6, s7, s8⟩
        go_simp
        with_reducible rfl
      rotate_left
      · simp only [Act.put, List.setIfInBounds_toArray, List.set_cons_zero, List.set_cons_succ, i64_w, i32_w]
        rfl
      refine pure_ (i := 3) (N := some 22) (v := ?_) (a' := ?_) #[true, true, true, true, true, true, false, false, false, false, false] rfl rfl (any_of HT_.out (by kernel_rfl)) (fun _ _ _ h => h) (Or.inl ⟨by rfl, ?_⟩) ?_ ?_
      rotate_left
      · intro w'
        go_simp
        with_reducible rfl
      rotate_left
      · simp only [Act.put, List.setIfInBounds_toArray, List.set_cons_zero, List.set_cons_succ, i64_w, i32_w]
        rfl
      refine take_ (i := 6) (N := some 25) (v := ?_) (a' := ?_) #[true, true, true, true, true, true, true, false, false, false, false] rfl rfl (take_ofW HT_.out HW_.out (by kernel_rfl)) (fun _ _ _ h => h) (Or.inl ⟨by rfl, ?_⟩) hHeld ?_ ?_
      rotate_left
      · rintro w' ⟨s0, s1, s2, s3, s4, s5, s6, s7, s8⟩
        go_simp
        with_reducible rfl
      rotate_left
      · simp only [Act.put, List.setIfInBounds_toArray, List.set_cons_zero, List.set_cons_succ, i64_w, i32_w]
        rfl
      refine one_ (i := 7) (N := some 26) #[true, true, true, true, true, true, true, true, false, false, false] rfl rfl (one_of HT_.out (by kernel_rfl)) (by decide) (fun K hK => ?_)
      refine goes_ Try.func13 (by kernel_rfl) rfl #[.string a0_5] (by rfl) rfl rfl (by (try simp only [List.map_toArray, List.map_cons, List.map_nil]); first | done | rfl | (simp only [List.length_drop, List.length_take]; rfl)) ?_
      with_reducible refine (lodestonelaw12_sum.calls a0_5 t105 _ A4.out).mono ?_
      rintro e w' ⟨rfl, ⟨nd, rfl⟩⟩
      refine ⟨_, rfl, ?_⟩
      refine hK.out _ _ ⟨(blk_cell (blk_drewN BK101.out nd) 0).trans rfl, (blk_cell (blk_drewN BK101.out nd) 1).trans rfl, (blk_cell (blk_drewN BK101.out nd) 2).trans rfl, (blk_cell (blk_drewN BK101.out nd) 3).trans rfl, (blk_cell (blk_drewN BK101.out nd) 4).trans rfl, (blk_cell (blk_drewN BK101.out nd) 5).trans rfl, (blk_cell (blk_drewN BK101.out nd) 6).trans rfl, (blk_cell (blk_drewN BK101.out nd) 7).trans rfl, (blk_cell (blk_drewN BK101.out nd) 8).trans rfl⟩ (fun hHeld => ?_)
      clear hK K
      refine norm_ (a' := ?_) ?_ ?_
      rotate_left
      · show Act.put _ (some 26) _ = _
        simp only [Act.put, List.setIfInBounds_toArray, List.set_cons_zero, List.set_cons_succ, i64_w, i32_w]
        rfl
      refine pure_ (i := 8) (N := some 27) (v := ?_) (a' := ?_) #[true, true, true, true, true, true, true, true, true, false, false] rfl rfl (any_of HT_.out (by kernel_rfl)) (fun _ _ _ h => h) (Or.inl ⟨by rfl, ?_⟩) ?_ ?_
      rotate_left
      · intro w'
        go_simp
        with_reducible rfl
      rotate_left
      · simp only [Act.put, List.setIfInBounds_toArray, List.set_cons_zero, List.set_cons_succ, i64_w, i32_w]
        rfl
      refine pure_ (i := 9) (N := some 28) (v := ?_) (a' := ?_) #[true, true, true, true, true, true, true, true, true, true, false] rfl rfl (any_of HT_.out (by kernel_rfl)) (fun _ _ _ h => h) (Or.inl ⟨by rfl, ?_⟩) ?_ ?_
      rotate_left
      · intro w'
        go_simp
        with_reducible rfl
      rotate_left
      · simp only [Act.put, List.setIfInBounds_toArray, List.set_cons_zero, List.set_cons_succ, i64_w, i32_w]
        rfl
      refine one_ (i := 10) (N := none) #[true, true, true, true, true, true, true, true, true, true, true] rfl rfl (one_of HT_.out (by kernel_rfl)) (by decide) (fun K hK => ?_)
      have hs24 : (w23.drewN nd).cell? ⟨gb103, 4, none⟩ = some (.int .i64 a0_4) := (blk_cell (blk_drewN BK103.out nd) 4).trans rfl
      have hfs24 := blk_frozen (blk_drewN BK103.out nd) 4
      have hns24_0 := NB101_103.out
      have hns24_1 := NB102_103.out
      have hms24_0 := NB103_101.out
      have hms24_1 := NB103_102.out
      have hs25 : (w23.drewN nd).cell? ⟨gb103, 5, none⟩ = some (.string a0_5) := (blk_cell (blk_drewN BK103.out nd) 5).trans rfl
      have hfs25 := blk_frozen (blk_drewN BK103.out nd) 5
      have hns25_0 := NB101_103.out
      have hns25_1 := NB102_103.out
      have hms25_0 := NB103_101.out
      have hms25_1 := NB103_102.out
      refine skip_ (w1 := ?_) (by rfl) rfl ?_ ?_
      rotate_left
      · go_simp
        rfl
      refine hK.out _ _ ⟨((cell_far (p := ⟨gb103, _, none⟩) NB101_103.out _).trans (((cell_far (p := ⟨gb103, _, none⟩) NB101_103.out _).trans (hHeld.1)))), ((cell_far (p := ⟨gb103, _, none⟩) NB101_103.out _).trans (((cell_far (p := ⟨gb103, _, none⟩) NB101_103.out _).trans (hHeld.2.1)))), ((cell_far (p := ⟨gb103, _, none⟩) NB101_103.out _).trans (((cell_far (p := ⟨gb103, _, none⟩) NB101_103.out _).trans (hHeld.2.2.1)))), ((cell_far (p := ⟨gb103, _, none⟩) NB101_103.out _).trans (((cell_far (p := ⟨gb103, _, none⟩) NB101_103.out _).trans (hHeld.2.2.2.1)))), ((cell_far (p := ⟨gb103, _, none⟩) NB101_103.out _).trans (((cell_far (p := ⟨gb103, _, none⟩) NB101_103.out _).trans (hHeld.2.2.2.2.1)))), ((cell_far (p := ⟨gb103, _, none⟩) NB101_103.out _).trans (((cell_far (p := ⟨gb103, _, none⟩) NB101_103.out _).trans (hHeld.2.2.2.2.2.1)))), ((cell_far (p := ⟨gb103, _, none⟩) NB101_103.out _).trans (((cell_far (p := ⟨gb103, _, none⟩) NB101_103.out _).trans (hHeld.2.2.2.2.2.2.1)))), ((cell_far (p := ⟨gb103, _, none⟩) NB101_103.out _).trans (((cell_far (p := ⟨gb103, _, none⟩) NB101_103.out _).trans (hHeld.2.2.2.2.2.2.2.1)))), ((cell_far (p := ⟨gb103, _, none⟩) NB101_103.out _).trans (((cell_far (p := ⟨gb103, _, none⟩) NB101_103.out _).trans (hHeld.2.2.2.2.2.2.2.2))))⟩ (fun hHeld => ?_)
      clear hK K
      refine done_ (done_of HT_.out (by kernel_rfl)) ?_
      have BK101 := Aside0.mk (blk_drewN BK101.out nd)
      have BK102 := Aside0.mk (blk_drewN BK102.out nd)
      have BK103 := Aside0.mk (blk_drewN BK103.out nd)
      have HB := Aside0.mk (pw_below_drewN HB.out nd)
      generalize w23.drewN nd = w23 at BK101 BK102 BK103 HB ⊢
      have hcz26_0 : w23.cell? ⟨gb101, 0, none⟩ = some (.int .u64 a0_0) := (blk_cell BK101.out 0).trans rfl
      have hcz26_1 : w23.cell? ⟨gb101, 1, none⟩ = some (.int .u32 a0_1) := (blk_cell BK101.out 1).trans rfl
      have hcz26_2 : w23.cell? ⟨gb101, 2, none⟩ = some (.bool a0_2) := (blk_cell BK101.out 2).trans rfl
      have hcz26_3 : w23.cell? ⟨gb101, 3, none⟩ = some (.string a0_3) := (blk_cell BK101.out 3).trans rfl
      have hcz26_4 : w23.cell? ⟨gb101, 4, none⟩ = some (.int .i64 a0_4) := (blk_cell BK101.out 4).trans rfl
      have hcz26_5 : w23.cell? ⟨gb101, 5, none⟩ = some (.string a0_5) := (blk_cell BK101.out 5).trans rfl
      have hcz26_6 : w23.cell? ⟨gb101, 6, none⟩ = some (.int .i64 a0_6) := (blk_cell BK101.out 6).trans rfl
      have hcz26_7 : w23.cell? ⟨gb101, 7, none⟩ = some (.int .i64 a0_7) := (blk_cell BK101.out 7).trans rfl
      have hcz26_8 : w23.cell? ⟨gb101, 8, none⟩ = some (.string a0_8) := (blk_cell BK101.out 8).trans rfl
      have hfz26_0 := blk_frozen BK101.out 0
      have hfz26_1 := blk_frozen BK101.out 1
      have hfz26_2 := blk_frozen BK101.out 2
      have hfz26_3 := blk_frozen BK101.out 3
      have hfz26_4 := blk_frozen BK101.out 4
      have hfz26_5 := blk_frozen BK101.out 5
      have hfz26_6 := blk_frozen BK101.out 6
      have hfz26_7 := blk_frozen BK101.out 7
      have hfz26_8 := blk_frozen BK101.out 8
      have hcz27_0 : w23.cell? ⟨gb103, 0, none⟩ = some (.int .u64 a0_0) := (blk_cell BK103.out 0).trans rfl
      have hcz27_1 : w23.cell? ⟨gb103, 1, none⟩ = some (.int .u32 a0_1) := (blk_cell BK103.out 1).trans rfl
      have hcz27_2 : w23.cell? ⟨gb103, 2, none⟩ = some (.bool a0_2) := (blk_cell BK103.out 2).trans rfl
      have hcz27_3 : w23.cell? ⟨gb103, 3, none⟩ = some (.string a0_3) := (blk_cell BK103.out 3).trans rfl
      have hcz27_4 : w23.cell? ⟨gb103, 4, none⟩ = some (.int .i64 a0_4) := (blk_cell BK103.out 4).trans rfl
      have hcz27_5 : w23.cell? ⟨gb103, 5, none⟩ = some (.string a0_5) := (blk_cell BK103.out 5).trans rfl
      have hcz27_6 : w23.cell? ⟨gb103, 6, none⟩ = some (.int .i64 (Go.bits .and .i64 a0_6 4095)) := (blk_cell BK103.out 6).trans rfl
      have hcz27_7 : w23.cell? ⟨gb103, 7, none⟩ = some (.int .i64 (Go.bits .and .i64 a0_7 4095)) := (blk_cell BK103.out 7).trans rfl
      have hcz27_8 : w23.cell? ⟨gb103, 8, none⟩ = some (.string t104) := (blk_cell BK103.out 8).trans rfl
      have hfz27_0 := blk_frozen BK103.out 0
      have hfz27_1 := blk_frozen BK103.out 1
      have hfz27_2 := blk_frozen BK103.out 2
      have hfz27_3 := blk_frozen BK103.out 3
      have hfz27_4 := blk_frozen BK103.out 4
      have hfz27_5 := blk_frozen BK103.out 5
      have hfz27_6 := blk_frozen BK103.out 6
      have hfz27_7 := blk_frozen BK103.out 7
      have hfz27_8 := blk_frozen BK103.out 8
      go_upto_if 39 with (fail)
      go_cut [] (fun wc => ∃ (kq : Nat) (x104002_7 : Bool), Aside0 (lodestonelaw12_near.j0 kq a1 a0_0 a0_1 a0_2 a0_3 a0_4 a0_5 a0_6 a0_7 a0_8 a0_0 a0_1 x104002_7 (a0_3.extract 0 ((ji5) : Int).toNat) (Go.bits .and .i64 a0_4 4095) t105 (Go.bits .and .i64 a0_6 4095) (Go.bits .and .i64 a0_7 4095) t104 = some (r1, r2, r3, r4, r5, r6, r7, r8, r9)) ∧ Aside0 (kq ≤ k) ∧ Aside0 (wc.heap[gb101]? = some (.cells #[.int .u64 a0_0, .int .u32 a0_1, .bool a0_2, .string a0_3, .int .i64 a0_4, .string a0_5, .int .i64 a0_6, .int .i64 a0_7, .string a0_8] 27 (0, 0))) ∧ Aside0 (wc.heap[gb102]? = some (.cells #[.int .u64 0, .int .u32 0, .bool false, .string (⟨#[]⟩ : ByteArray), .int .i64 0, .string (⟨#[]⟩ : ByteArray), .int .i64 0, .int .i64 0, .string (⟨#[]⟩ : ByteArray)] 27 (0, 0))) ∧ Aside0 (wc.heap[gb103]? = some (.cells #[.int .u64 a0_0, .int .u32 a0_1, .bool x104002_7, .string (a0_3.extract 0 ((ji5) : Int).toNat), .int .i64 (Go.bits .and .i64 a0_4 4095), .string t105, .int .i64 (Go.bits .and .i64 a0_6 4095), .int .i64 (Go.bits .and .i64 a0_7 4095), .string t104] 27 (0, 0))) ∧ Aside0 (Below w.heap.size w wc))
      case first =>
        have H := HC8.out
        clear HC8
        by_cases c28 : (a0_3.extract 0 ((ji5) : Int).toNat).toList = ([] : List UInt8)
        · rw [if_pos c28] at H
          have c28f : (a0_3.extract 0 ((ji5) : Int).toNat).toList.isEmpty = true := by first | (rw [c28]; rfl) | (cases hh_ : (a0_3.extract 0 ((ji5) : Int).toNat).toList with | nil => exact absurd hh_ c28 | cons _ _ => rfl)
          have c28b0 : ((a0_3.extract 0 ((ji5) : Int).toNat).toList == ([] : List UInt8)) = true := beq_iff_eq.mpr c28
          have c28b1 : ((a0_3.extract 0 ((ji5) : Int).toNat).toList != ([] : List UInt8)) = false := bne_eq_false_iff_eq.mpr c28
          clear c28
          (first | rw [c28f] | rw [c28b0] | (simp only [i64_w, i32_w]; rw [c28b0]) | skip)
          have H' := Aside0.mk H
          clear H
          go_wp2
          go_meet
          case rel => exact ⟨_, (a0_2), H', ⟨by first | omega | exact Nat.le_refl _⟩, ⟨by (with_reducible repeat (first | refine blk_drewN ?_ _ | refine blk_drew ?_ | refine blk_alloc ?_ _)); refine blk_far ?_ NB101_103.out _; (with_reducible repeat (first | refine blk_drewN ?_ _ | refine blk_drew ?_ | refine blk_alloc ?_ _)); refine blk_far ?_ NB101_103.out _; (with_reducible repeat (first | refine blk_drewN ?_ _ | refine blk_drew ?_ | refine blk_alloc ?_ _)); refine blk_far ?_ NB101_103.out _; (with_reducible repeat (first | refine blk_drewN ?_ _ | refine blk_drew ?_ | refine blk_alloc ?_ _)); exact BK101.out⟩, ⟨by (with_reducible repeat (first | refine blk_drewN ?_ _ | refine blk_drew ?_ | refine blk_alloc ?_ _)); refine blk_far ?_ NB102_103.out _; (with_reducible repeat (first | refine blk_drewN ?_ _ | refine blk_drew ?_ | refine blk_alloc ?_ _)); refine blk_far ?_ NB102_103.out _; (with_reducible repeat (first | refine blk_drewN ?_ _ | refine blk_drew ?_ | refine blk_alloc ?_ _)); refine blk_far ?_ NB102_103.out _; (with_reducible repeat (first | refine blk_drewN ?_ _ | refine blk_drew ?_ | refine blk_alloc ?_ _)); exact BK102.out⟩, ⟨by (with_reducible repeat (first | refine blk_drewN ?_ _ | refine blk_drew ?_ | refine blk_alloc ?_ _)); refine blk_put (cs := #[.int .u64 a0_0, .int .u32 a0_1, .bool a0_2, .string a0_3, .int .i64 (Go.bits .and .i64 a0_4 4095), .string t105, .int .i64 (Go.bits .and .i64 a0_6 4095), .int .i64 (Go.bits .and .i64 a0_7 4095), .string t104]) ?_ 3 _ rfl; (with_reducible repeat (first | refine blk_drewN ?_ _ | refine blk_drew ?_ | refine blk_alloc ?_ _)); refine blk_put (cs := #[.int .u64 a0_0, .int .u32 a0_1, .bool a0_2, .string a0_3, .int .i64 (Go.bits .and .i64 a0_4 4095), .string a0_5, .int .i64 (Go.bits .and .i64 a0_6 4095), .int .i64 (Go.bits .and .i64 a0_7 4095), .string t104]) ?_ 5 _ rfl; (with_reducible repeat (first | refine blk_drewN ?_ _ | refine blk_drew ?_ | refine blk_alloc ?_ _)); refine blk_put (cs := #[.int .u64 a0_0, .int .u32 a0_1, .bool a0_2, .string a0_3, .int .i64 a0_4, .string a0_5, .int .i64 (Go.bits .and .i64 a0_6 4095), .int .i64 (Go.bits .and .i64 a0_7 4095), .string t104]) ?_ 4 _ rfl; (with_reducible repeat (first | refine blk_drewN ?_ _ | refine blk_drew ?_ | refine blk_alloc ?_ _)); exact BK103.out⟩, ⟨by repeat (first | (with_reducible first | exact HB.out | apply below_alloc | apply pw_below_drewN | apply below_drew1 | refine below_set ?_ GE101.out | refine below_set ?_ GE102.out | refine below_set ?_ GE103.out) | exact HB.out)⟩⟩
        · rw [if_neg c28] at H
          have c28f : (a0_3.extract 0 ((ji5) : Int).toNat).toList.isEmpty = false := by first | (rw [c28]; rfl) | (cases hh_ : (a0_3.extract 0 ((ji5) : Int).toNat).toList with | nil => exact absurd hh_ c28 | cons _ _ => rfl)
          have c28b0 : ((a0_3.extract 0 ((ji5) : Int).toNat).toList == ([] : List UInt8)) = false := beq_eq_false_iff_ne.mpr c28
          have c28b1 : ((a0_3.extract 0 ((ji5) : Int).toNat).toList != ([] : List UInt8)) = true := bne_iff_ne.mpr c28
          (first | rw [c28f] | rw [c28b0] | (simp only [i64_w, i32_w]; rw [c28b0]) | skip)
          have H' := Aside0.mk H
          clear H
          have hnb29 := NB103_101.out
          have hnc29 := NB101_103.out
          have hnb30 := NB103_102.out
          have hnc30 := NB102_103.out
          have hcz31_0 : w23.cell? ⟨gb103, 0, none⟩ = some (.int .u64 a0_0) := (blk_cell BK103.out 0).trans rfl
          have hcz31_1 : w23.cell? ⟨gb103, 1, none⟩ = some (.int .u32 a0_1) := (blk_cell BK103.out 1).trans rfl
          have hcz31_2 : w23.cell? ⟨gb103, 2, none⟩ = some (.bool a0_2) := (blk_cell BK103.out 2).trans rfl
          have hcz31_3 : w23.cell? ⟨gb103, 3, none⟩ = some (.string a0_3) := (blk_cell BK103.out 3).trans rfl
          have hcz31_4 : w23.cell? ⟨gb103, 4, none⟩ = some (.int .i64 a0_4) := (blk_cell BK103.out 4).trans rfl
          have hcz31_5 : w23.cell? ⟨gb103, 5, none⟩ = some (.string a0_5) := (blk_cell BK103.out 5).trans rfl
          have hcz31_6 : w23.cell? ⟨gb103, 6, none⟩ = some (.int .i64 (Go.bits .and .i64 a0_6 4095)) := (blk_cell BK103.out 6).trans rfl
          have hcz31_7 : w23.cell? ⟨gb103, 7, none⟩ = some (.int .i64 (Go.bits .and .i64 a0_7 4095)) := (blk_cell BK103.out 7).trans rfl
          have hcz31_8 : w23.cell? ⟨gb103, 8, none⟩ = some (.string t104) := (blk_cell BK103.out 8).trans rfl
          have hfz31_0 := blk_frozen BK103.out 0
          have hfz31_1 := blk_frozen BK103.out 1
          have hfz31_2 := blk_frozen BK103.out 2
          have hfz31_3 := blk_frozen BK103.out 3
          have hfz31_4 := blk_frozen BK103.out 4
          have hfz31_5 := blk_frozen BK103.out 5
          have hfz31_6 := blk_frozen BK103.out 6
          have hfz31_7 := blk_frozen BK103.out 7
          have hfz31_8 := blk_frozen BK103.out 8
          go_wp2
          go_meet
          case rel => exact ⟨_, (true), H', ⟨by first | omega | exact Nat.le_refl _⟩, ⟨by (with_reducible repeat (first | refine blk_drewN ?_ _ | refine blk_drew ?_ | refine blk_alloc ?_ _)); refine blk_far ?_ NB101_103.out _; (with_reducible repeat (first | refine blk_drewN ?_ _ | refine blk_drew ?_ | refine blk_alloc ?_ _)); refine blk_far ?_ NB101_103.out _; (with_reducible repeat (first | refine blk_drewN ?_ _ | refine blk_drew ?_ | refine blk_alloc ?_ _)); refine blk_far ?_ NB101_103.out _; (with_reducible repeat (first | refine blk_drewN ?_ _ | refine blk_drew ?_ | refine blk_alloc ?_ _)); refine blk_far ?_ NB101_103.out _; (with_reducible repeat (first | refine blk_drewN ?_ _ | refine blk_drew ?_ | refine blk_alloc ?_ _)); exact BK101.out⟩, ⟨by (with_reducible repeat (first | refine blk_drewN ?_ _ | refine blk_drew ?_ | refine blk_alloc ?_ _)); refine blk_far ?_ NB102_103.out _; (with_reducible repeat (first | refine blk_drewN ?_ _ | refine blk_drew ?_ | refine blk_alloc ?_ _)); refine blk_far ?_ NB102_103.out _; (with_reducible repeat (first | refine blk_drewN ?_ _ | refine blk_drew ?_ | refine blk_alloc ?_ _)); refine blk_far ?_ NB102_103.out _; (with_reducible repeat (first | refine blk_drewN ?_ _ | refine blk_drew ?_ | refine blk_alloc ?_ _)); refine blk_far ?_ NB102_103.out _; (with_reducible repeat (first | refine blk_drewN ?_ _ | refine blk_drew ?_ | refine blk_alloc ?_ _)); exact BK102.out⟩, ⟨by (with_reducible repeat (first | refine blk_drewN ?_ _ | refine blk_drew ?_ | refine blk_alloc ?_ _)); refine blk_put (cs := #[.int .u64 a0_0, .int .u32 a0_1, .bool a0_2, .string (a0_3.extract 0 ((ji5) : Int).toNat), .int .i64 (Go.bits .and .i64 a0_4 4095), .string t105, .int .i64 (Go.bits .and .i64 a0_6 4095), .int .i64 (Go.bits .and .i64 a0_7 4095), .string t104]) ?_ 2 _ rfl; (with_reducible repeat (first | refine blk_drewN ?_ _ | refine blk_drew ?_ | refine blk_alloc ?_ _)); refine blk_put (cs := #[.int .u64 a0_0, .int .u32 a0_1, .bool a0_2, .string a0_3, .int .i64 (Go.bits .and .i64 a0_4 4095), .string t105, .int .i64 (Go.bits .and .i64 a0_6 4095), .int .i64 (Go.bits .and .i64 a0_7 4095), .string t104]) ?_ 3 _ rfl; (with_reducible repeat (first | refine blk_drewN ?_ _ | refine blk_drew ?_ | refine blk_alloc ?_ _)); refine blk_put (cs := #[.int .u64 a0_0, .int .u32 a0_1, .bool a0_2, .string a0_3, .int .i64 (Go.bits .and .i64 a0_4 4095), .string a0_5, .int .i64 (Go.bits .and .i64 a0_6 4095), .int .i64 (Go.bits .and .i64 a0_7 4095), .string t104]) ?_ 5 _ rfl; (with_reducible repeat (first | refine blk_drewN ?_ _ | refine blk_drew ?_ | refine blk_alloc ?_ _)); refine blk_put (cs := #[.int .u64 a0_0, .int .u32 a0_1, .bool a0_2, .string a0_3, .int .i64 a0_4, .string a0_5, .int .i64 (Go.bits .and .i64 a0_6 4095), .int .i64 (Go.bits .and .i64 a0_7 4095), .string t104]) ?_ 4 _ rfl; (with_reducible repeat (first | refine blk_drewN ?_ _ | refine blk_drew ?_ | refine blk_alloc ?_ _)); exact BK103.out⟩, ⟨by repeat (first | (with_reducible first | exact HB.out | apply below_alloc | apply pw_below_drewN | apply below_drew1 | refine below_set ?_ GE101.out | refine below_set ?_ GE102.out | refine below_set ?_ GE103.out) | exact HB.out)⟩⟩
      case rest =>
        clear HC8
        try clear c1
        try clear c2
        try clear p2
        try clear c3
        try clear c5
        try clear c6
        try clear c6b0
        try clear c6b1
        try clear c7
        try clear c7b0
        try clear c7b1
        try clear c11
        try clear c13
        try clear c14
        try clear c15
        try clear c28
        try clear c28b0
        try clear c28b1
        try clear c29
        try clear c30
        try clear hcz12_0
        try clear hcz12_1
        try clear hcz12_2
        try clear hcz12_3
        try clear hcz12_4
        try clear hcz12_5
        try clear hcz12_6
        try clear hcz12_7
        try clear hcz12_8
        try clear hcz16_0
        try clear hcz16_1
        try clear hcz16_2
        try clear hcz16_3
        try clear hcz16_4
        try clear hcz16_5
        try clear hcz16_6
        try clear hcz16_7
        try clear hcz16_8
        try clear hcz26_0
        try clear hcz26_1
        try clear hcz26_2
        try clear hcz26_3
        try clear hcz26_4
        try clear hcz26_5
        try clear hcz26_6
        try clear hcz26_7
        try clear hcz26_8
        try clear hcz27_0
        try clear hcz27_1
        try clear hcz27_2
        try clear hcz27_3
        try clear hcz27_4
        try clear hcz27_5
        try clear hcz27_6
        try clear hcz27_7
        try clear hcz27_8
        try clear hcz31_0
        try clear hcz31_1
        try clear hcz31_2
        try clear hcz31_3
        try clear hcz31_4
        try clear hcz31_5
        try clear hcz31_6
        try clear hcz31_7
        try clear hcz31_8
        try clear hfz12_0
        try clear hfz12_1
        try clear hfz12_2
        try clear hfz12_3
        try clear hfz12_4
        try clear hfz12_5
        try clear hfz12_6
        try clear hfz12_7
        try clear hfz12_8
        try clear hfz16_0
        try clear hfz16_1
        try clear hfz16_2
        try clear hfz16_3
        try clear hfz16_4
        try clear hfz16_5
        try clear hfz16_6
        try clear hfz16_7
        try clear hfz16_8
        try clear hfz26_0
        try clear hfz26_1
        try clear hfz26_2
        try clear hfz26_3
        try clear hfz26_4
        try clear hfz26_5
        try clear hfz26_6
        try clear hfz26_7
        try clear hfz26_8
        try clear hfz27_0
        try clear hfz27_1
        try clear hfz27_2
        try clear hfz27_3
        try clear hfz27_4
        try clear hfz27_5
        try clear hfz27_6
        try clear hfz27_7
        try clear hfz27_8
        try clear hfz31_0
        try clear hfz31_1
        try clear hfz31_2
        try clear hfz31_3
        try clear hfz31_4
        try clear hfz31_5
        try clear hfz31_6
        try clear hfz31_7
        try clear hfz31_8
        obtain ⟨kq, x104002_7, HA, HJ7, BK101, BK102, BK103, HB⟩ := hcut
        cases kq with
        | zero => exact absurd HA.out (by simp [lodestonelaw12_near.j0])
        | succ kj7 =>
          have H := HA.out
          clear HA
          simp only [lodestonelaw12_near.j0] at H
          by_cases c32 : (Go.bits .and .i64 a1 7) = 0
          · rw [if_pos c32] at H
            have c32b0 : ((Go.bits .and .i64 a1 7) == 0) = true := beq_iff_eq.mpr c32
            have c32b1 : ((Go.bits .and .i64 a1 7) != 0) = false := bne_eq_false_iff_eq.mpr c32
            clear c32
            simp only [Option.some.injEq, Prod.mk.injEq] at H
            obtain ⟨rfl, rfl, rfl, rfl, rfl, rfl, rfl, rfl, rfl⟩ := H
            have hnb33 := NB103_101.out
            have hnc33 := NB101_103.out
            have hnb34 := NB103_102.out
            have hnc34 := NB102_103.out
            have hcz35_0 : wc.cell? ⟨gb103, 0, none⟩ = some (.int .u64 a0_0) := (blk_cell BK103.out 0).trans rfl
            have hcz35_1 : wc.cell? ⟨gb103, 1, none⟩ = some (.int .u32 a0_1) := (blk_cell BK103.out 1).trans rfl
            have hcz35_2 : wc.cell? ⟨gb103, 2, none⟩ = some (.bool x104002_7) := (blk_cell BK103.out 2).trans rfl
            have hcz35_3 : wc.cell? ⟨gb103, 3, none⟩ = some (.string (a0_3.extract 0 ((ji5) : Int).toNat)) := (blk_cell BK103.out 3).trans rfl
            have hcz35_4 : wc.cell? ⟨gb103, 4, none⟩ = some (.int .i64 (Go.bits .and .i64 a0_4 4095)) := (blk_cell BK103.out 4).trans rfl
            have hcz35_5 : wc.cell? ⟨gb103, 5, none⟩ = some (.string t105) := (blk_cell BK103.out 5).trans rfl
            have hcz35_6 : wc.cell? ⟨gb103, 6, none⟩ = some (.int .i64 (Go.bits .and .i64 a0_6 4095)) := (blk_cell BK103.out 6).trans rfl
            have hcz35_7 : wc.cell? ⟨gb103, 7, none⟩ = some (.int .i64 (Go.bits .and .i64 a0_7 4095)) := (blk_cell BK103.out 7).trans rfl
            have hcz35_8 : wc.cell? ⟨gb103, 8, none⟩ = some (.string t104) := (blk_cell BK103.out 8).trans rfl
            have hfz35_0 := blk_frozen BK103.out 0
            have hfz35_1 := blk_frozen BK103.out 1
            have hfz35_2 := blk_frozen BK103.out 2
            have hfz35_3 := blk_frozen BK103.out 3
            have hfz35_4 := blk_frozen BK103.out 4
            have hfz35_5 := blk_frozen BK103.out 5
            have hfz35_6 := blk_frozen BK103.out 6
            have hfz35_7 := blk_frozen BK103.out 7
            have hfz35_8 := blk_frozen BK103.out 8
            have hnb36 := NB102_101.out
            have hnc36 := NB101_102.out
            have hcz37_0 : wc.cell? ⟨gb102, 0, none⟩ = some (.int .u64 0) := (blk_cell BK102.out 0).trans rfl
            have hcz37_1 : wc.cell? ⟨gb102, 1, none⟩ = some (.int .u32 0) := (blk_cell BK102.out 1).trans rfl
            have hcz37_2 : wc.cell? ⟨gb102, 2, none⟩ = some (.bool false) := (blk_cell BK102.out 2).trans rfl
            have hcz37_3 : wc.cell? ⟨gb102, 3, none⟩ = some (.string (⟨#[]⟩ : ByteArray)) := (blk_cell BK102.out 3).trans rfl
            have hcz37_4 : wc.cell? ⟨gb102, 4, none⟩ = some (.int .i64 0) := (blk_cell BK102.out 4).trans rfl
            have hcz37_5 : wc.cell? ⟨gb102, 5, none⟩ = some (.string (⟨#[]⟩ : ByteArray)) := (blk_cell BK102.out 5).trans rfl
            have hcz37_6 : wc.cell? ⟨gb102, 6, none⟩ = some (.int .i64 0) := (blk_cell BK102.out 6).trans rfl
            have hcz37_7 : wc.cell? ⟨gb102, 7, none⟩ = some (.int .i64 0) := (blk_cell BK102.out 7).trans rfl
            have hcz37_8 : wc.cell? ⟨gb102, 8, none⟩ = some (.string (⟨#[]⟩ : ByteArray)) := (blk_cell BK102.out 8).trans rfl
            have hfz37_0 := blk_frozen BK102.out 0
            have hfz37_1 := blk_frozen BK102.out 1
            have hfz37_2 := blk_frozen BK102.out 2
            have hfz37_3 := blk_frozen BK102.out 3
            have hfz37_4 := blk_frozen BK102.out 4
            have hfz37_5 := blk_frozen BK102.out 5
            have hfz37_6 := blk_frozen BK102.out 6
            have hfz37_7 := blk_frozen BK102.out 7
            have hfz37_8 := blk_frozen BK102.out 8
            go_wp2
            refine bodyPost_ret (results_cell_row rfl _ _ gb102 27 #[.int .u64 a0_0, .int .u32 a0_1, .bool x104002_7, .string (a0_3.extract 0 ((ji5) : Int).toNat), .int .i64 (-1), .string (⟨#[]⟩ : ByteArray), .int .i64 (Go.bits .and .i64 a0_6 4095), .int .i64 (Go.bits .and .i64 a0_7 4095), .string t104] (0, 0) _ rfl (by (with_reducible repeat (first | refine blk_drewN ?_ _ | refine blk_drew ?_ | refine blk_alloc ?_ _)); refine blk_put (cs := #[.int .u64 a0_0, .int .u32 a0_1, .bool x104002_7, .string (a0_3.extract 0 ((ji5) : Int).toNat), .int .i64 (-1), .string (⟨#[]⟩ : ByteArray), .int .i64 (Go.bits .and .i64 a0_6 4095), .int .i64 (Go.bits .and .i64 a0_7 4095), .string (⟨#[]⟩ : ByteArray)]) ?_ 8 _ rfl; (with_reducible repeat (first | refine blk_drewN ?_ _ | refine blk_drew ?_ | refine blk_alloc ?_ _)); refine blk_put (cs := #[.int .u64 a0_0, .int .u32 a0_1, .bool x104002_7, .string (a0_3.extract 0 ((ji5) : Int).toNat), .int .i64 (-1), .string (⟨#[]⟩ : ByteArray), .int .i64 (Go.bits .and .i64 a0_6 4095), .int .i64 0, .string (⟨#[]⟩ : ByteArray)]) ?_ 7 _ rfl; (with_reducible repeat (first | refine blk_drewN ?_ _ | refine blk_drew ?_ | refine blk_alloc ?_ _)); refine blk_put (cs := #[.int .u64 a0_0, .int .u32 a0_1, .bool x104002_7, .string (a0_3.extract 0 ((ji5) : Int).toNat), .int .i64 (-1), .string (⟨#[]⟩ : ByteArray), .int .i64 0, .int .i64 0, .string (⟨#[]⟩ : ByteArray)]) ?_ 6 _ rfl; (with_reducible repeat (first | refine blk_drewN ?_ _ | refine blk_drew ?_ | refine blk_alloc ?_ _)); refine blk_put (cs := #[.int .u64 a0_0, .int .u32 a0_1, .bool x104002_7, .string (a0_3.extract 0 ((ji5) : Int).toNat), .int .i64 (-1), .string (⟨#[]⟩ : ByteArray), .int .i64 0, .int .i64 0, .string (⟨#[]⟩ : ByteArray)]) ?_ 5 _ rfl; (with_reducible repeat (first | refine blk_drewN ?_ _ | refine blk_drew ?_ | refine blk_alloc ?_ _)); refine blk_put (cs := #[.int .u64 a0_0, .int .u32 a0_1, .bool x104002_7, .string (a0_3.extract 0 ((ji5) : Int).toNat), .int .i64 0, .string (⟨#[]⟩ : ByteArray), .int .i64 0, .int .i64 0, .string (⟨#[]⟩ : ByteArray)]) ?_ 4 _ rfl; (with_reducible repeat (first | refine blk_drewN ?_ _ | refine blk_drew ?_ | refine blk_alloc ?_ _)); refine blk_put (cs := #[.int .u64 a0_0, .int .u32 a0_1, .bool x104002_7, .string (⟨#[]⟩ : ByteArray), .int .i64 0, .string (⟨#[]⟩ : ByteArray), .int .i64 0, .int .i64 0, .string (⟨#[]⟩ : ByteArray)]) ?_ 3 _ rfl; (with_reducible repeat (first | refine blk_drewN ?_ _ | refine blk_drew ?_ | refine blk_alloc ?_ _)); refine blk_put (cs := #[.int .u64 a0_0, .int .u32 a0_1, .bool false, .string (⟨#[]⟩ : ByteArray), .int .i64 0, .string (⟨#[]⟩ : ByteArray), .int .i64 0, .int .i64 0, .string (⟨#[]⟩ : ByteArray)]) ?_ 2 _ rfl; (with_reducible repeat (first | refine blk_drewN ?_ _ | refine blk_drew ?_ | refine blk_alloc ?_ _)); refine blk_put (cs := #[.int .u64 a0_0, .int .u32 0, .bool false, .string (⟨#[]⟩ : ByteArray), .int .i64 0, .string (⟨#[]⟩ : ByteArray), .int .i64 0, .int .i64 0, .string (⟨#[]⟩ : ByteArray)]) ?_ 1 _ rfl; (with_reducible repeat (first | refine blk_drewN ?_ _ | refine blk_drew ?_ | refine blk_alloc ?_ _)); refine blk_put (cs := #[.int .u64 0, .int .u32 0, .bool false, .string (⟨#[]⟩ : ByteArray), .int .i64 0, .string (⟨#[]⟩ : ByteArray), .int .i64 0, .int .i64 0, .string (⟨#[]⟩ : ByteArray)]) ?_ 0 _ rfl; (with_reducible repeat (first | refine blk_drewN ?_ _ | refine blk_drew ?_ | refine blk_alloc ?_ _)); refine blk_far ?_ NB102_103.out _; (with_reducible repeat (first | refine blk_drewN ?_ _ | refine blk_drew ?_ | refine blk_alloc ?_ _)); refine blk_far ?_ NB102_103.out _; (with_reducible repeat (first | refine blk_drewN ?_ _ | refine blk_drew ?_ | refine blk_alloc ?_ _)); exact BK102.out) Try.underlying27 rfl (by kernel_rfl)) rfl ?_
            exact ⟨by first | rfl | (simp [errW_none, errW_some] <;> rfl) | (simp only [← hji5]; first | rfl | (simp [errW_none, errW_some] <;> rfl)) | (simp [*, errW_none, errW_some] <;> rfl), by repeat (first | (with_reducible first | exact HB.out | apply below_alloc | apply pw_below_drewN | apply below_drew1 | refine below_set ?_ GE101.out | refine below_set ?_ GE102.out | refine below_set ?_ GE103.out) | exact HB.out)⟩
          · rw [if_neg c32] at H
            have c32b0 : ((Go.bits .and .i64 a1 7) == 0) = false := beq_eq_false_iff_ne.mpr c32
            have c32b1 : ((Go.bits .and .i64 a1 7) != 0) = true := bne_iff_ne.mpr c32
            by_cases c38 : (Go.bits .and .i64 a1 7) = 1
            · rw [if_pos c38] at H
              have c38b0 : ((Go.bits .and .i64 a1 7) == 1) = true := beq_iff_eq.mpr c38
              have c38b1 : ((Go.bits .and .i64 a1 7) != 1) = false := bne_eq_false_iff_eq.mpr c38
              clear c38
              simp only [Option.some.injEq, Prod.mk.injEq] at H
              obtain ⟨rfl, rfl, rfl, rfl, rfl, rfl, rfl, rfl, rfl⟩ := H
              have hnb39 := NB101_102.out
              have hnc39 := NB102_101.out
              have hnb40 := NB101_103.out
              have hnc40 := NB103_101.out
              have hcz41_0 : wc.cell? ⟨gb101, 0, none⟩ = some (.int .u64 a0_0) := (blk_cell BK101.out 0).trans rfl
              have hcz41_1 : wc.cell? ⟨gb101, 1, none⟩ = some (.int .u32 a0_1) := (blk_cell BK101.out 1).trans rfl
              have hcz41_2 : wc.cell? ⟨gb101, 2, none⟩ = some (.bool a0_2) := (blk_cell BK101.out 2).trans rfl
              have hcz41_3 : wc.cell? ⟨gb101, 3, none⟩ = some (.string a0_3) := (blk_cell BK101.out 3).trans rfl
              have hcz41_4 : wc.cell? ⟨gb101, 4, none⟩ = some (.int .i64 a0_4) := (blk_cell BK101.out 4).trans rfl
              have hcz41_5 : wc.cell? ⟨gb101, 5, none⟩ = some (.string a0_5) := (blk_cell BK101.out 5).trans rfl
              have hcz41_6 : wc.cell? ⟨gb101, 6, none⟩ = some (.int .i64 a0_6) := (blk_cell BK101.out 6).trans rfl
              have hcz41_7 : wc.cell? ⟨gb101, 7, none⟩ = some (.int .i64 a0_7) := (blk_cell BK101.out 7).trans rfl
              have hcz41_8 : wc.cell? ⟨gb101, 8, none⟩ = some (.string a0_8) := (blk_cell BK101.out 8).trans rfl
              have hfz41_0 := blk_frozen BK101.out 0
              have hfz41_1 := blk_frozen BK101.out 1
              have hfz41_2 := blk_frozen BK101.out 2
              have hfz41_3 := blk_frozen BK101.out 3
              have hfz41_4 := blk_frozen BK101.out 4
              have hfz41_5 := blk_frozen BK101.out 5
              have hfz41_6 := blk_frozen BK101.out 6
              have hfz41_7 := blk_frozen BK101.out 7
              have hfz41_8 := blk_frozen BK101.out 8
              have hnb42 := NB103_102.out
              have hnc42 := NB102_103.out
              have hcz43_0 : wc.cell? ⟨gb103, 0, none⟩ = some (.int .u64 a0_0) := (blk_cell BK103.out 0).trans rfl
              have hcz43_1 : wc.cell? ⟨gb103, 1, none⟩ = some (.int .u32 a0_1) := (blk_cell BK103.out 1).trans rfl
              have hcz43_2 : wc.cell? ⟨gb103, 2, none⟩ = some (.bool x104002_7) := (blk_cell BK103.out 2).trans rfl
              have hcz43_3 : wc.cell? ⟨gb103, 3, none⟩ = some (.string (a0_3.extract 0 ((ji5) : Int).toNat)) := (blk_cell BK103.out 3).trans rfl
              have hcz43_4 : wc.cell? ⟨gb103, 4, none⟩ = some (.int .i64 (Go.bits .and .i64 a0_4 4095)) := (blk_cell BK103.out 4).trans rfl
              have hcz43_5 : wc.cell? ⟨gb103, 5, none⟩ = some (.string t105) := (blk_cell BK103.out 5).trans rfl
              have hcz43_6 : wc.cell? ⟨gb103, 6, none⟩ = some (.int .i64 (Go.bits .and .i64 a0_6 4095)) := (blk_cell BK103.out 6).trans rfl
              have hcz43_7 : wc.cell? ⟨gb103, 7, none⟩ = some (.int .i64 (Go.bits .and .i64 a0_7 4095)) := (blk_cell BK103.out 7).trans rfl
              have hcz43_8 : wc.cell? ⟨gb103, 8, none⟩ = some (.string t104) := (blk_cell BK103.out 8).trans rfl
              have hfz43_0 := blk_frozen BK103.out 0
              have hfz43_1 := blk_frozen BK103.out 1
              have hfz43_2 := blk_frozen BK103.out 2
              have hfz43_3 := blk_frozen BK103.out 3
              have hfz43_4 := blk_frozen BK103.out 4
              have hfz43_5 := blk_frozen BK103.out 5
              have hfz43_6 := blk_frozen BK103.out 6
              have hfz43_7 := blk_frozen BK103.out 7
              have hfz43_8 := blk_frozen BK103.out 8
              have hcz44_0 : wc.cell? ⟨gb102, 0, none⟩ = some (.int .u64 0) := (blk_cell BK102.out 0).trans rfl
              have hcz44_1 : wc.cell? ⟨gb102, 1, none⟩ = some (.int .u32 0) := (blk_cell BK102.out 1).trans rfl
              have hcz44_2 : wc.cell? ⟨gb102, 2, none⟩ = some (.bool false) := (blk_cell BK102.out 2).trans rfl
              have hcz44_3 : wc.cell? ⟨gb102, 3, none⟩ = some (.string (⟨#[]⟩ : ByteArray)) := (blk_cell BK102.out 3).trans rfl
              have hcz44_4 : wc.cell? ⟨gb102, 4, none⟩ = some (.int .i64 0) := (blk_cell BK102.out 4).trans rfl
              have hcz44_5 : wc.cell? ⟨gb102, 5, none⟩ = some (.string (⟨#[]⟩ : ByteArray)) := (blk_cell BK102.out 5).trans rfl
              have hcz44_6 : wc.cell? ⟨gb102, 6, none⟩ = some (.int .i64 0) := (blk_cell BK102.out 6).trans rfl
              have hcz44_7 : wc.cell? ⟨gb102, 7, none⟩ = some (.int .i64 0) := (blk_cell BK102.out 7).trans rfl
              have hcz44_8 : wc.cell? ⟨gb102, 8, none⟩ = some (.string (⟨#[]⟩ : ByteArray)) := (blk_cell BK102.out 8).trans rfl
              have hfz44_0 := blk_frozen BK102.out 0
              have hfz44_1 := blk_frozen BK102.out 1
              have hfz44_2 := blk_frozen BK102.out 2
              have hfz44_3 := blk_frozen BK102.out 3
              have hfz44_4 := blk_frozen BK102.out 4
              have hfz44_5 := blk_frozen BK102.out 5
              have hfz44_6 := blk_frozen BK102.out 6
              have hfz44_7 := blk_frozen BK102.out 7
              have hfz44_8 := blk_frozen BK102.out 8
              go_wp2
              refine bodyPost_ret (results_cell_row rfl _ _ gb102 27 #[.int .u64 a0_0, .int .u32 a0_1, .bool x104002_7, .string (a0_3.extract 0 ((ji5) : Int).toNat), .int .i64 (Go.bits .and .i64 a0_4 4095), .string t105, .int .i64 a0_6, .int .i64 (Go.bits .and .i64 a0_7 4095), .string t104] (0, 0) _ rfl (by (with_reducible repeat (first | refine blk_drewN ?_ _ | refine blk_drew ?_ | refine blk_alloc ?_ _)); refine blk_put (cs := #[.int .u64 a0_0, .int .u32 a0_1, .bool x104002_7, .string (a0_3.extract 0 ((ji5) : Int).toNat), .int .i64 (Go.bits .and .i64 a0_4 4095), .string t105, .int .i64 a0_6, .int .i64 (Go.bits .and .i64 a0_7 4095), .string (⟨#[]⟩ : ByteArray)]) ?_ 8 _ rfl; (with_reducible repeat (first | refine blk_drewN ?_ _ | refine blk_drew ?_ | refine blk_alloc ?_ _)); refine blk_put (cs := #[.int .u64 a0_0, .int .u32 a0_1, .bool x104002_7, .string (a0_3.extract 0 ((ji5) : Int).toNat), .int .i64 (Go.bits .and .i64 a0_4 4095), .string t105, .int .i64 a0_6, .int .i64 0, .string (⟨#[]⟩ : ByteArray)]) ?_ 7 _ rfl; (with_reducible repeat (first | refine blk_drewN ?_ _ | refine blk_drew ?_ | refine blk_alloc ?_ _)); refine blk_put (cs := #[.int .u64 a0_0, .int .u32 a0_1, .bool x104002_7, .string (a0_3.extract 0 ((ji5) : Int).toNat), .int .i64 (Go.bits .and .i64 a0_4 4095), .string t105, .int .i64 0, .int .i64 0, .string (⟨#[]⟩ : ByteArray)]) ?_ 6 _ rfl; (with_reducible repeat (first | refine blk_drewN ?_ _ | refine blk_drew ?_ | refine blk_alloc ?_ _)); refine blk_put (cs := #[.int .u64 a0_0, .int .u32 a0_1, .bool x104002_7, .string (a0_3.extract 0 ((ji5) : Int).toNat), .int .i64 (Go.bits .and .i64 a0_4 4095), .string (⟨#[]⟩ : ByteArray), .int .i64 0, .int .i64 0, .string (⟨#[]⟩ : ByteArray)]) ?_ 5 _ rfl; (with_reducible repeat (first | refine blk_drewN ?_ _ | refine blk_drew ?_ | refine blk_alloc ?_ _)); refine blk_put (cs := #[.int .u64 a0_0, .int .u32 a0_1, .bool x104002_7, .string (a0_3.extract 0 ((ji5) : Int).toNat), .int .i64 0, .string (⟨#[]⟩ : ByteArray), .int .i64 0, .int .i64 0, .string (⟨#[]⟩ : ByteArray)]) ?_ 4 _ rfl; (with_reducible repeat (first | refine blk_drewN ?_ _ | refine blk_drew ?_ | refine blk_alloc ?_ _)); refine blk_put (cs := #[.int .u64 a0_0, .int .u32 a0_1, .bool x104002_7, .string (⟨#[]⟩ : ByteArray), .int .i64 0, .string (⟨#[]⟩ : ByteArray), .int .i64 0, .int .i64 0, .string (⟨#[]⟩ : ByteArray)]) ?_ 3 _ rfl; (with_reducible repeat (first | refine blk_drewN ?_ _ | refine blk_drew ?_ | refine blk_alloc ?_ _)); refine blk_put (cs := #[.int .u64 a0_0, .int .u32 a0_1, .bool false, .string (⟨#[]⟩ : ByteArray), .int .i64 0, .string (⟨#[]⟩ : ByteArray), .int .i64 0, .int .i64 0, .string (⟨#[]⟩ : ByteArray)]) ?_ 2 _ rfl; (with_reducible repeat (first | refine blk_drewN ?_ _ | refine blk_drew ?_ | refine blk_alloc ?_ _)); refine blk_put (cs := #[.int .u64 a0_0, .int .u32 0, .bool false, .string (⟨#[]⟩ : ByteArray), .int .i64 0, .string (⟨#[]⟩ : ByteArray), .int .i64 0, .int .i64 0, .string (⟨#[]⟩ : ByteArray)]) ?_ 1 _ rfl; (with_reducible repeat (first | refine blk_drewN ?_ _ | refine blk_drew ?_ | refine blk_alloc ?_ _)); refine blk_put (cs := #[.int .u64 0, .int .u32 0, .bool false, .string (⟨#[]⟩ : ByteArray), .int .i64 0, .string (⟨#[]⟩ : ByteArray), .int .i64 0, .int .i64 0, .string (⟨#[]⟩ : ByteArray)]) ?_ 0 _ rfl; (with_reducible repeat (first | refine blk_drewN ?_ _ | refine blk_drew ?_ | refine blk_alloc ?_ _)); refine blk_far ?_ NB102_103.out _; (with_reducible repeat (first | refine blk_drewN ?_ _ | refine blk_drew ?_ | refine blk_alloc ?_ _)); exact BK102.out) Try.underlying27 rfl (by kernel_rfl)) rfl ?_
              exact ⟨by first | rfl | (simp [errW_none, errW_some] <;> rfl) | (simp only [← hji5]; first | rfl | (simp [errW_none, errW_some] <;> rfl)) | (simp [*, errW_none, errW_some] <;> rfl), by repeat (first | (with_reducible first | exact HB.out | apply below_alloc | apply pw_below_drewN | apply below_drew1 | refine below_set ?_ GE101.out | refine below_set ?_ GE102.out | refine below_set ?_ GE103.out) | exact HB.out)⟩
            · rw [if_neg c38] at H
              have c38b0 : ((Go.bits .and .i64 a1 7) == 1) = false := beq_eq_false_iff_ne.mpr c38
              have c38b1 : ((Go.bits .and .i64 a1 7) != 1) = true := bne_iff_ne.mpr c38
              by_cases c45 : (Go.bits .and .i64 a1 7) = 2
              · rw [if_pos c45] at H
                have c45b0 : ((Go.bits .and .i64 a1 7) == 2) = true := beq_iff_eq.mpr c45
                have c45b1 : ((Go.bits .and .i64 a1 7) != 2) = false := bne_eq_false_iff_eq.mpr c45
                clear c45
                simp only [Option.some.injEq, Prod.mk.injEq] at H
                obtain ⟨rfl, rfl, rfl, rfl, rfl, rfl, rfl, rfl, rfl⟩ := H
                have hnb46 := NB101_102.out
                have hnc46 := NB102_101.out
                have hnb47 := NB101_103.out
                have hnc47 := NB103_101.out
                have hcz48_0 : wc.cell? ⟨gb101, 0, none⟩ = some (.int .u64 a0_0) := (blk_cell BK101.out 0).trans rfl
                have hcz48_1 : wc.cell? ⟨gb101, 1, none⟩ = some (.int .u32 a0_1) := (blk_cell BK101.out 1).trans rfl
                have hcz48_2 : wc.cell? ⟨gb101, 2, none⟩ = some (.bool a0_2) := (blk_cell BK101.out 2).trans rfl
                have hcz48_3 : wc.cell? ⟨gb101, 3, none⟩ = some (.string a0_3) := (blk_cell BK101.out 3).trans rfl
                have hcz48_4 : wc.cell? ⟨gb101, 4, none⟩ = some (.int .i64 a0_4) := (blk_cell BK101.out 4).trans rfl
                have hcz48_5 : wc.cell? ⟨gb101, 5, none⟩ = some (.string a0_5) := (blk_cell BK101.out 5).trans rfl
                have hcz48_6 : wc.cell? ⟨gb101, 6, none⟩ = some (.int .i64 a0_6) := (blk_cell BK101.out 6).trans rfl
                have hcz48_7 : wc.cell? ⟨gb101, 7, none⟩ = some (.int .i64 a0_7) := (blk_cell BK101.out 7).trans rfl
                have hcz48_8 : wc.cell? ⟨gb101, 8, none⟩ = some (.string a0_8) := (blk_cell BK101.out 8).trans rfl
                have hfz48_0 := blk_frozen BK101.out 0
                have hfz48_1 := blk_frozen BK101.out 1
                have hfz48_2 := blk_frozen BK101.out 2
                have hfz48_3 := blk_frozen BK101.out 3
                have hfz48_4 := blk_frozen BK101.out 4
                have hfz48_5 := blk_frozen BK101.out 5
                have hfz48_6 := blk_frozen BK101.out 6
                have hfz48_7 := blk_frozen BK101.out 7
                have hfz48_8 := blk_frozen BK101.out 8
                have hnb49 := NB103_102.out
                have hnc49 := NB102_103.out
                have hcz50_0 : wc.cell? ⟨gb103, 0, none⟩ = some (.int .u64 a0_0) := (blk_cell BK103.out 0).trans rfl
                have hcz50_1 : wc.cell? ⟨gb103, 1, none⟩ = some (.int .u32 a0_1) := (blk_cell BK103.out 1).trans rfl
                have hcz50_2 : wc.cell? ⟨gb103, 2, none⟩ = some (.bool x104002_7) := (blk_cell BK103.out 2).trans rfl
                have hcz50_3 : wc.cell? ⟨gb103, 3, none⟩ = some (.string (a0_3.extract 0 ((ji5) : Int).toNat)) := (blk_cell BK103.out 3).trans rfl
                have hcz50_4 : wc.cell? ⟨gb103, 4, none⟩ = some (.int .i64 (Go.bits .and .i64 a0_4 4095)) := (blk_cell BK103.out 4).trans rfl
                have hcz50_5 : wc.cell? ⟨gb103, 5, none⟩ = some (.string t105) := (blk_cell BK103.out 5).trans rfl
                have hcz50_6 : wc.cell? ⟨gb103, 6, none⟩ = some (.int .i64 (Go.bits .and .i64 a0_6 4095)) := (blk_cell BK103.out 6).trans rfl
                have hcz50_7 : wc.cell? ⟨gb103, 7, none⟩ = some (.int .i64 (Go.bits .and .i64 a0_7 4095)) := (blk_cell BK103.out 7).trans rfl
                have hcz50_8 : wc.cell? ⟨gb103, 8, none⟩ = some (.string t104) := (blk_cell BK103.out 8).trans rfl
                have hfz50_0 := blk_frozen BK103.out 0
                have hfz50_1 := blk_frozen BK103.out 1
                have hfz50_2 := blk_frozen BK103.out 2
                have hfz50_3 := blk_frozen BK103.out 3
                have hfz50_4 := blk_frozen BK103.out 4
                have hfz50_5 := blk_frozen BK103.out 5
                have hfz50_6 := blk_frozen BK103.out 6
                have hfz50_7 := blk_frozen BK103.out 7
                have hfz50_8 := blk_frozen BK103.out 8
                have hcz51_0 : wc.cell? ⟨gb102, 0, none⟩ = some (.int .u64 0) := (blk_cell BK102.out 0).trans rfl
                have hcz51_1 : wc.cell? ⟨gb102, 1, none⟩ = some (.int .u32 0) := (blk_cell BK102.out 1).trans rfl
                have hcz51_2 : wc.cell? ⟨gb102, 2, none⟩ = some (.bool false) := (blk_cell BK102.out 2).trans rfl
                have hcz51_3 : wc.cell? ⟨gb102, 3, none⟩ = some (.string (⟨#[]⟩ : ByteArray)) := (blk_cell BK102.out 3).trans rfl
                have hcz51_4 : wc.cell? ⟨gb102, 4, none⟩ = some (.int .i64 0) := (blk_cell BK102.out 4).trans rfl
                have hcz51_5 : wc.cell? ⟨gb102, 5, none⟩ = some (.string (⟨#[]⟩ : ByteArray)) := (blk_cell BK102.out 5).trans rfl
                have hcz51_6 : wc.cell? ⟨gb102, 6, none⟩ = some (.int .i64 0) := (blk_cell BK102.out 6).trans rfl
                have hcz51_7 : wc.cell? ⟨gb102, 7, none⟩ = some (.int .i64 0) := (blk_cell BK102.out 7).trans rfl
                have hcz51_8 : wc.cell? ⟨gb102, 8, none⟩ = some (.string (⟨#[]⟩ : ByteArray)) := (blk_cell BK102.out 8).trans rfl
                have hfz51_0 := blk_frozen BK102.out 0
                have hfz51_1 := blk_frozen BK102.out 1
                have hfz51_2 := blk_frozen BK102.out 2
                have hfz51_3 := blk_frozen BK102.out 3
                have hfz51_4 := blk_frozen BK102.out 4
                have hfz51_5 := blk_frozen BK102.out 5
                have hfz51_6 := blk_frozen BK102.out 6
                have hfz51_7 := blk_frozen BK102.out 7
                have hfz51_8 := blk_frozen BK102.out 8
                go_wp2
                refine bodyPost_ret (results_cell_row rfl _ _ gb102 27 #[.int .u64 a0_0, .int .u32 a0_1, .bool x104002_7, .string (a0_3.extract 0 ((ji5) : Int).toNat), .int .i64 (Go.bits .and .i64 a0_4 4095), .string t105, .int .i64 (Go.bits .and .i64 a0_6 4095), .int .i64 (Go.bits .and .i64 a0_7 4095), .string a0_8] (0, 0) _ rfl (by (with_reducible repeat (first | refine blk_drewN ?_ _ | refine blk_drew ?_ | refine blk_alloc ?_ _)); refine blk_put (cs := #[.int .u64 a0_0, .int .u32 a0_1, .bool x104002_7, .string (a0_3.extract 0 ((ji5) : Int).toNat), .int .i64 (Go.bits .and .i64 a0_4 4095), .string t105, .int .i64 (Go.bits .and .i64 a0_6 4095), .int .i64 (Go.bits .and .i64 a0_7 4095), .string (⟨#[]⟩ : ByteArray)]) ?_ 8 _ rfl; (with_reducible repeat (first | refine blk_drewN ?_ _ | refine blk_drew ?_ | refine blk_alloc ?_ _)); refine blk_put (cs := #[.int .u64 a0_0, .int .u32 a0_1, .bool x104002_7, .string (a0_3.extract 0 ((ji5) : Int).toNat), .int .i64 (Go.bits .and .i64 a0_4 4095), .string t105, .int .i64 (Go.bits .and .i64 a0_6 4095), .int .i64 0, .string (⟨#[]⟩ : ByteArray)]) ?_ 7 _ rfl; (with_reducible repeat (first | refine blk_drewN ?_ _ | refine blk_drew ?_ | refine blk_alloc ?_ _)); refine blk_put (cs := #[.int .u64 a0_0, .int .u32 a0_1, .bool x104002_7, .string (a0_3.extract 0 ((ji5) : Int).toNat), .int .i64 (Go.bits .and .i64 a0_4 4095), .string t105, .int .i64 0, .int .i64 0, .string (⟨#[]⟩ : ByteArray)]) ?_ 6 _ rfl; (with_reducible repeat (first | refine blk_drewN ?_ _ | refine blk_drew ?_ | refine blk_alloc ?_ _)); refine blk_put (cs := #[.int .u64 a0_0, .int .u32 a0_1, .bool x104002_7, .string (a0_3.extract 0 ((ji5) : Int).toNat), .int .i64 (Go.bits .and .i64 a0_4 4095), .string (⟨#[]⟩ : ByteArray), .int .i64 0, .int .i64 0, .string (⟨#[]⟩ : ByteArray)]) ?_ 5 _ rfl; (with_reducible repeat (first | refine blk_drewN ?_ _ | refine blk_drew ?_ | refine blk_alloc ?_ _)); refine blk_put (cs := #[.int .u64 a0_0, .int .u32 a0_1, .bool x104002_7, .string (a0_3.extract 0 ((ji5) : Int).toNat), .int .i64 0, .string (⟨#[]⟩ : ByteArray), .int .i64 0, .int .i64 0, .string (⟨#[]⟩ : ByteArray)]) ?_ 4 _ rfl; (with_reducible repeat (first | refine blk_drewN ?_ _ | refine blk_drew ?_ | refine blk_alloc ?_ _)); refine blk_put (cs := #[.int .u64 a0_0, .int .u32 a0_1, .bool x104002_7, .string (⟨#[]⟩ : ByteArray), .int .i64 0, .string (⟨#[]⟩ : ByteArray), .int .i64 0, .int .i64 0, .string (⟨#[]⟩ : ByteArray)]) ?_ 3 _ rfl; (with_reducible repeat (first | refine blk_drewN ?_ _ | refine blk_drew ?_ | refine blk_alloc ?_ _)); refine blk_put (cs := #[.int .u64 a0_0, .int .u32 a0_1, .bool false, .string (⟨#[]⟩ : ByteArray), .int .i64 0, .string (⟨#[]⟩ : ByteArray), .int .i64 0, .int .i64 0, .string (⟨#[]⟩ : ByteArray)]) ?_ 2 _ rfl; (with_reducible repeat (first | refine blk_drewN ?_ _ | refine blk_drew ?_ | refine blk_alloc ?_ _)); refine blk_put (cs := #[.int .u64 a0_0, .int .u32 0, .bool false, .string (⟨#[]⟩ : ByteArray), .int .i64 0, .string (⟨#[]⟩ : ByteArray), .int .i64 0, .int .i64 0, .string (⟨#[]⟩ : ByteArray)]) ?_ 1 _ rfl; (with_reducible repeat (first | refine blk_drewN ?_ _ | refine blk_drew ?_ | refine blk_alloc ?_ _)); refine blk_put (cs := #[.int .u64 0, .int .u32 0, .bool false, .string (⟨#[]⟩ : ByteArray), .int .i64 0, .string (⟨#[]⟩ : ByteArray), .int .i64 0, .int .i64 0, .string (⟨#[]⟩ : ByteArray)]) ?_ 0 _ rfl; (with_reducible repeat (first | refine blk_drewN ?_ _ | refine blk_drew ?_ | refine blk_alloc ?_ _)); refine blk_far ?_ NB102_103.out _; (with_reducible repeat (first | refine blk_drewN ?_ _ | refine blk_drew ?_ | refine blk_alloc ?_ _)); exact BK102.out) Try.underlying27 rfl (by kernel_rfl)) rfl ?_
                exact ⟨by first | rfl | (simp [errW_none, errW_some] <;> rfl) | (simp only [← hji5]; first | rfl | (simp [errW_none, errW_some] <;> rfl)) | (simp [*, errW_none, errW_some] <;> rfl), by repeat (first | (with_reducible first | exact HB.out | apply below_alloc | apply pw_below_drewN | apply below_drew1 | refine below_set ?_ GE101.out | refine below_set ?_ GE102.out | refine below_set ?_ GE103.out) | exact HB.out)⟩
              · rw [if_neg c45] at H
                have c45b0 : ((Go.bits .and .i64 a1 7) == 2) = false := beq_eq_false_iff_ne.mpr c45
                have c45b1 : ((Go.bits .and .i64 a1 7) != 2) = true := bne_iff_ne.mpr c45
                by_cases c52 : (Go.bits .and .i64 a1 7) = 3
                · rw [if_pos c52] at H
                  have c52b0 : ((Go.bits .and .i64 a1 7) == 3) = true := beq_iff_eq.mpr c52
                  have c52b1 : ((Go.bits .and .i64 a1 7) != 3) = false := bne_eq_false_iff_eq.mpr c52
                  clear c52
                  simp only [Option.some.injEq, Prod.mk.injEq] at H
                  obtain ⟨rfl, rfl, rfl, rfl, rfl, rfl, rfl, rfl, rfl⟩ := H
                  have hnb53 := NB101_102.out
                  have hnc53 := NB102_101.out
                  have hnb54 := NB101_103.out
                  have hnc54 := NB103_101.out
                  have hcz55_0 : wc.cell? ⟨gb101, 0, none⟩ = some (.int .u64 a0_0) := (blk_cell BK101.out 0).trans rfl
                  have hcz55_1 : wc.cell? ⟨gb101, 1, none⟩ = some (.int .u32 a0_1) := (blk_cell BK101.out 1).trans rfl
                  have hcz55_2 : wc.cell? ⟨gb101, 2, none⟩ = some (.bool a0_2) := (blk_cell BK101.out 2).trans rfl
                  have hcz55_3 : wc.cell? ⟨gb101, 3, none⟩ = some (.string a0_3) := (blk_cell BK101.out 3).trans rfl
                  have hcz55_4 : wc.cell? ⟨gb101, 4, none⟩ = some (.int .i64 a0_4) := (blk_cell BK101.out 4).trans rfl
                  have hcz55_5 : wc.cell? ⟨gb101, 5, none⟩ = some (.string a0_5) := (blk_cell BK101.out 5).trans rfl
                  have hcz55_6 : wc.cell? ⟨gb101, 6, none⟩ = some (.int .i64 a0_6) := (blk_cell BK101.out 6).trans rfl
                  have hcz55_7 : wc.cell? ⟨gb101, 7, none⟩ = some (.int .i64 a0_7) := (blk_cell BK101.out 7).trans rfl
                  have hcz55_8 : wc.cell? ⟨gb101, 8, none⟩ = some (.string a0_8) := (blk_cell BK101.out 8).trans rfl
                  have hfz55_0 := blk_frozen BK101.out 0
                  have hfz55_1 := blk_frozen BK101.out 1
                  have hfz55_2 := blk_frozen BK101.out 2
                  have hfz55_3 := blk_frozen BK101.out 3
                  have hfz55_4 := blk_frozen BK101.out 4
                  have hfz55_5 := blk_frozen BK101.out 5
                  have hfz55_6 := blk_frozen BK101.out 6
                  have hfz55_7 := blk_frozen BK101.out 7
                  have hfz55_8 := blk_frozen BK101.out 8
                  have hnb56 := NB103_102.out
                  have hnc56 := NB102_103.out
                  have hcz57_0 : wc.cell? ⟨gb103, 0, none⟩ = some (.int .u64 a0_0) := (blk_cell BK103.out 0).trans rfl
                  have hcz57_1 : wc.cell? ⟨gb103, 1, none⟩ = some (.int .u32 a0_1) := (blk_cell BK103.out 1).trans rfl
                  have hcz57_2 : wc.cell? ⟨gb103, 2, none⟩ = some (.bool x104002_7) := (blk_cell BK103.out 2).trans rfl
                  have hcz57_3 : wc.cell? ⟨gb103, 3, none⟩ = some (.string (a0_3.extract 0 ((ji5) : Int).toNat)) := (blk_cell BK103.out 3).trans rfl
                  have hcz57_4 : wc.cell? ⟨gb103, 4, none⟩ = some (.int .i64 (Go.bits .and .i64 a0_4 4095)) := (blk_cell BK103.out 4).trans rfl
                  have hcz57_5 : wc.cell? ⟨gb103, 5, none⟩ = some (.string t105) := (blk_cell BK103.out 5).trans rfl
                  have hcz57_6 : wc.cell? ⟨gb103, 6, none⟩ = some (.int .i64 (Go.bits .and .i64 a0_6 4095)) := (blk_cell BK103.out 6).trans rfl
                  have hcz57_7 : wc.cell? ⟨gb103, 7, none⟩ = some (.int .i64 (Go.bits .and .i64 a0_7 4095)) := (blk_cell BK103.out 7).trans rfl
                  have hcz57_8 : wc.cell? ⟨gb103, 8, none⟩ = some (.string t104) := (blk_cell BK103.out 8).trans rfl
                  have hfz57_0 := blk_frozen BK103.out 0
                  have hfz57_1 := blk_frozen BK103.out 1
                  have hfz57_2 := blk_frozen BK103.out 2
                  have hfz57_3 := blk_frozen BK103.out 3
                  have hfz57_4 := blk_frozen BK103.out 4
                  have hfz57_5 := blk_frozen BK103.out 5
                  have hfz57_6 := blk_frozen BK103.out 6
                  have hfz57_7 := blk_frozen BK103.out 7
                  have hfz57_8 := blk_frozen BK103.out 8
                  have hcz58_0 : wc.cell? ⟨gb102, 0, none⟩ = some (.int .u64 0) := (blk_cell BK102.out 0).trans rfl
                  have hcz58_1 : wc.cell? ⟨gb102, 1, none⟩ = some (.int .u32 0) := (blk_cell BK102.out 1).trans rfl
                  have hcz58_2 : wc.cell? ⟨gb102, 2, none⟩ = some (.bool false) := (blk_cell BK102.out 2).trans rfl
                  have hcz58_3 : wc.cell? ⟨gb102, 3, none⟩ = some (.string (⟨#[]⟩ : ByteArray)) := (blk_cell BK102.out 3).trans rfl
                  have hcz58_4 : wc.cell? ⟨gb102, 4, none⟩ = some (.int .i64 0) := (blk_cell BK102.out 4).trans rfl
                  have hcz58_5 : wc.cell? ⟨gb102, 5, none⟩ = some (.string (⟨#[]⟩ : ByteArray)) := (blk_cell BK102.out 5).trans rfl
                  have hcz58_6 : wc.cell? ⟨gb102, 6, none⟩ = some (.int .i64 0) := (blk_cell BK102.out 6).trans rfl
                  have hcz58_7 : wc.cell? ⟨gb102, 7, none⟩ = some (.int .i64 0) := (blk_cell BK102.out 7).trans rfl
                  have hcz58_8 : wc.cell? ⟨gb102, 8, none⟩ = some (.string (⟨#[]⟩ : ByteArray)) := (blk_cell BK102.out 8).trans rfl
                  have hfz58_0 := blk_frozen BK102.out 0
                  have hfz58_1 := blk_frozen BK102.out 1
                  have hfz58_2 := blk_frozen BK102.out 2
                  have hfz58_3 := blk_frozen BK102.out 3
                  have hfz58_4 := blk_frozen BK102.out 4
                  have hfz58_5 := blk_frozen BK102.out 5
                  have hfz58_6 := blk_frozen BK102.out 6
                  have hfz58_7 := blk_frozen BK102.out 7
                  have hfz58_8 := blk_frozen BK102.out 8
                  go_wp2
                  refine bodyPost_ret (results_cell_row rfl _ _ gb102 27 #[.int .u64 a0_0, .int .u32 a0_1, .bool x104002_7, .string (a0_3.extract 0 ((ji5) : Int).toNat), .int .i64 (Go.bits .and .i64 a0_4 4095), .string a0_5, .int .i64 (Go.bits .and .i64 a0_6 4095), .int .i64 (Go.bits .and .i64 a0_7 4095), .string t104] (0, 0) _ rfl (by (with_reducible repeat (first | refine blk_drewN ?_ _ | refine blk_drew ?_ | refine blk_alloc ?_ _)); refine blk_put (cs := #[.int .u64 a0_0, .int .u32 a0_1, .bool x104002_7, .string (a0_3.extract 0 ((ji5) : Int).toNat), .int .i64 (Go.bits .and .i64 a0_4 4095), .string a0_5, .int .i64 (Go.bits .and .i64 a0_6 4095), .int .i64 (Go.bits .and .i64 a0_7 4095), .string (⟨#[]⟩ : ByteArray)]) ?_ 8 _ rfl; (with_reducible repeat (first | refine blk_drewN ?_ _ | refine blk_drew ?_ | refine blk_alloc ?_ _)); refine blk_put (cs := #[.int .u64 a0_0, .int .u32 a0_1, .bool x104002_7, .string (a0_3.extract 0 ((ji5) : Int).toNat), .int .i64 (Go.bits .and .i64 a0_4 4095), .string a0_5, .int .i64 (Go.bits .and .i64 a0_6 4095), .int .i64 0, .string (⟨#[]⟩ : ByteArray)]) ?_ 7 _ rfl; (with_reducible repeat (first | refine blk_drewN ?_ _ | refine blk_drew ?_ | refine blk_alloc ?_ _)); refine blk_put (cs := #[.int .u64 a0_0, .int .u32 a0_1, .bool x104002_7, .string (a0_3.extract 0 ((ji5) : Int).toNat), .int .i64 (Go.bits .and .i64 a0_4 4095), .string a0_5, .int .i64 0, .int .i64 0, .string (⟨#[]⟩ : ByteArray)]) ?_ 6 _ rfl; (with_reducible repeat (first | refine blk_drewN ?_ _ | refine blk_drew ?_ | refine blk_alloc ?_ _)); refine blk_put (cs := #[.int .u64 a0_0, .int .u32 a0_1, .bool x104002_7, .string (a0_3.extract 0 ((ji5) : Int).toNat), .int .i64 (Go.bits .and .i64 a0_4 4095), .string (⟨#[]⟩ : ByteArray), .int .i64 0, .int .i64 0, .string (⟨#[]⟩ : ByteArray)]) ?_ 5 _ rfl; (with_reducible repeat (first | refine blk_drewN ?_ _ | refine blk_drew ?_ | refine blk_alloc ?_ _)); refine blk_put (cs := #[.int .u64 a0_0, .int .u32 a0_1, .bool x104002_7, .string (a0_3.extract 0 ((ji5) : Int).toNat), .int .i64 0, .string (⟨#[]⟩ : ByteArray), .int .i64 0, .int .i64 0, .string (⟨#[]⟩ : ByteArray)]) ?_ 4 _ rfl; (with_reducible repeat (first | refine blk_drewN ?_ _ | refine blk_drew ?_ | refine blk_alloc ?_ _)); refine blk_put (cs := #[.int .u64 a0_0, .int .u32 a0_1, .bool x104002_7, .string (⟨#[]⟩ : ByteArray), .int .i64 0, .string (⟨#[]⟩ : ByteArray), .int .i64 0, .int .i64 0, .string (⟨#[]⟩ : ByteArray)]) ?_ 3 _ rfl; (with_reducible repeat (first | refine blk_drewN ?_ _ | refine blk_drew ?_ | refine blk_alloc ?_ _)); refine blk_put (cs := #[.int .u64 a0_0, .int .u32 a0_1, .bool false, .string (⟨#[]⟩ : ByteArray), .int .i64 0, .string (⟨#[]⟩ : ByteArray), .int .i64 0, .int .i64 0, .string (⟨#[]⟩ : ByteArray)]) ?_ 2 _ rfl; (with_reducible repeat (first | refine blk_drewN ?_ _ | refine blk_drew ?_ | refine blk_alloc ?_ _)); refine blk_put (cs := #[.int .u64 a0_0, .int .u32 0, .bool false, .string (⟨#[]⟩ : ByteArray), .int .i64 0, .string (⟨#[]⟩ : ByteArray), .int .i64 0, .int .i64 0, .string (⟨#[]⟩ : ByteArray)]) ?_ 1 _ rfl; (with_reducible repeat (first | refine blk_drewN ?_ _ | refine blk_drew ?_ | refine blk_alloc ?_ _)); refine blk_put (cs := #[.int .u64 0, .int .u32 0, .bool false, .string (⟨#[]⟩ : ByteArray), .int .i64 0, .string (⟨#[]⟩ : ByteArray), .int .i64 0, .int .i64 0, .string (⟨#[]⟩ : ByteArray)]) ?_ 0 _ rfl; (with_reducible repeat (first | refine blk_drewN ?_ _ | refine blk_drew ?_ | refine blk_alloc ?_ _)); refine blk_far ?_ NB102_103.out _; (with_reducible repeat (first | refine blk_drewN ?_ _ | refine blk_drew ?_ | refine blk_alloc ?_ _)); exact BK102.out) Try.underlying27 rfl (by kernel_rfl)) rfl ?_
                  exact ⟨by first | rfl | (simp [errW_none, errW_some] <;> rfl) | (simp only [← hji5]; first | rfl | (simp [errW_none, errW_some] <;> rfl)) | (simp [*, errW_none, errW_some] <;> rfl), by repeat (first | (with_reducible first | exact HB.out | apply below_alloc | apply pw_below_drewN | apply below_drew1 | refine below_set ?_ GE101.out | refine below_set ?_ GE102.out | refine below_set ?_ GE103.out) | exact HB.out)⟩
                · rw [if_neg c52] at H
                  have c52b0 : ((Go.bits .and .i64 a1 7) == 3) = false := beq_eq_false_iff_ne.mpr c52
                  have c52b1 : ((Go.bits .and .i64 a1 7) != 3) = true := bne_iff_ne.mpr c52
                  by_cases c59 : (Go.bits .and .i64 a1 7) = 4
                  · rw [if_pos c59] at H
                    have c59b0 : ((Go.bits .and .i64 a1 7) == 4) = true := beq_iff_eq.mpr c59
                    have c59b1 : ((Go.bits .and .i64 a1 7) != 4) = false := bne_eq_false_iff_eq.mpr c59
                    clear c59
                    simp only [Option.some.injEq, Prod.mk.injEq] at H
                    obtain ⟨rfl, rfl, rfl, rfl, rfl, rfl, rfl, rfl, rfl⟩ := H
                    have hnb60 := NB101_102.out
                    have hnc60 := NB102_101.out
                    have hnb61 := NB101_103.out
                    have hnc61 := NB103_101.out
                    have hcz62_0 : wc.cell? ⟨gb101, 0, none⟩ = some (.int .u64 a0_0) := (blk_cell BK101.out 0).trans rfl
                    have hcz62_1 : wc.cell? ⟨gb101, 1, none⟩ = some (.int .u32 a0_1) := (blk_cell BK101.out 1).trans rfl
                    have hcz62_2 : wc.cell? ⟨gb101, 2, none⟩ = some (.bool a0_2) := (blk_cell BK101.out 2).trans rfl
                    have hcz62_3 : wc.cell? ⟨gb101, 3, none⟩ = some (.string a0_3) := (blk_cell BK101.out 3).trans rfl
                    have hcz62_4 : wc.cell? ⟨gb101, 4, none⟩ = some (.int .i64 a0_4) := (blk_cell BK101.out 4).trans rfl
                    have hcz62_5 : wc.cell? ⟨gb101, 5, none⟩ = some (.string a0_5) := (blk_cell BK101.out 5).trans rfl
                    have hcz62_6 : wc.cell? ⟨gb101, 6, none⟩ = some (.int .i64 a0_6) := (blk_cell BK101.out 6).trans rfl
                    have hcz62_7 : wc.cell? ⟨gb101, 7, none⟩ = some (.int .i64 a0_7) := (blk_cell BK101.out 7).trans rfl
                    have hcz62_8 : wc.cell? ⟨gb101, 8, none⟩ = some (.string a0_8) := (blk_cell BK101.out 8).trans rfl
                    have hfz62_0 := blk_frozen BK101.out 0
                    have hfz62_1 := blk_frozen BK101.out 1
                    have hfz62_2 := blk_frozen BK101.out 2
                    have hfz62_3 := blk_frozen BK101.out 3
                    have hfz62_4 := blk_frozen BK101.out 4
                    have hfz62_5 := blk_frozen BK101.out 5
                    have hfz62_6 := blk_frozen BK101.out 6
                    have hfz62_7 := blk_frozen BK101.out 7
                    have hfz62_8 := blk_frozen BK101.out 8
                    have hnb63 := NB103_102.out
                    have hnc63 := NB102_103.out
                    have hcz64_0 : wc.cell? ⟨gb103, 0, none⟩ = some (.int .u64 a0_0) := (blk_cell BK103.out 0).trans rfl
                    have hcz64_1 : wc.cell? ⟨gb103, 1, none⟩ = some (.int .u32 a0_1) := (blk_cell BK103.out 1).trans rfl
                    have hcz64_2 : wc.cell? ⟨gb103, 2, none⟩ = some (.bool x104002_7) := (blk_cell BK103.out 2).trans rfl
                    have hcz64_3 : wc.cell? ⟨gb103, 3, none⟩ = some (.string (a0_3.extract 0 ((ji5) : Int).toNat)) := (blk_cell BK103.out 3).trans rfl
                    have hcz64_4 : wc.cell? ⟨gb103, 4, none⟩ = some (.int .i64 (Go.bits .and .i64 a0_4 4095)) := (blk_cell BK103.out 4).trans rfl
                    have hcz64_5 : wc.cell? ⟨gb103, 5, none⟩ = some (.string t105) := (blk_cell BK103.out 5).trans rfl
                    have hcz64_6 : wc.cell? ⟨gb103, 6, none⟩ = some (.int .i64 (Go.bits .and .i64 a0_6 4095)) := (blk_cell BK103.out 6).trans rfl
                    have hcz64_7 : wc.cell? ⟨gb103, 7, none⟩ = some (.int .i64 (Go.bits .and .i64 a0_7 4095)) := (blk_cell BK103.out 7).trans rfl
                    have hcz64_8 : wc.cell? ⟨gb103, 8, none⟩ = some (.string t104) := (blk_cell BK103.out 8).trans rfl
                    have hfz64_0 := blk_frozen BK103.out 0
                    have hfz64_1 := blk_frozen BK103.out 1
                    have hfz64_2 := blk_frozen BK103.out 2
                    have hfz64_3 := blk_frozen BK103.out 3
                    have hfz64_4 := blk_frozen BK103.out 4
                    have hfz64_5 := blk_frozen BK103.out 5
                    have hfz64_6 := blk_frozen BK103.out 6
                    have hfz64_7 := blk_frozen BK103.out 7
                    have hfz64_8 := blk_frozen BK103.out 8
                    have hcz65_0 : wc.cell? ⟨gb102, 0, none⟩ = some (.int .u64 0) := (blk_cell BK102.out 0).trans rfl
                    have hcz65_1 : wc.cell? ⟨gb102, 1, none⟩ = some (.int .u32 0) := (blk_cell BK102.out 1).trans rfl
                    have hcz65_2 : wc.cell? ⟨gb102, 2, none⟩ = some (.bool false) := (blk_cell BK102.out 2).trans rfl
                    have hcz65_3 : wc.cell? ⟨gb102, 3, none⟩ = some (.string (⟨#[]⟩ : ByteArray)) := (blk_cell BK102.out 3).trans rfl
                    have hcz65_4 : wc.cell? ⟨gb102, 4, none⟩ = some (.int .i64 0) := (blk_cell BK102.out 4).trans rfl
                    have hcz65_5 : wc.cell? ⟨gb102, 5, none⟩ = some (.string (⟨#[]⟩ : ByteArray)) := (blk_cell BK102.out 5).trans rfl
                    have hcz65_6 : wc.cell? ⟨gb102, 6, none⟩ = some (.int .i64 0) := (blk_cell BK102.out 6).trans rfl
                    have hcz65_7 : wc.cell? ⟨gb102, 7, none⟩ = some (.int .i64 0) := (blk_cell BK102.out 7).trans rfl
                    have hcz65_8 : wc.cell? ⟨gb102, 8, none⟩ = some (.string (⟨#[]⟩ : ByteArray)) := (blk_cell BK102.out 8).trans rfl
                    have hfz65_0 := blk_frozen BK102.out 0
                    have hfz65_1 := blk_frozen BK102.out 1
                    have hfz65_2 := blk_frozen BK102.out 2
                    have hfz65_3 := blk_frozen BK102.out 3
                    have hfz65_4 := blk_frozen BK102.out 4
                    have hfz65_5 := blk_frozen BK102.out 5
                    have hfz65_6 := blk_frozen BK102.out 6
                    have hfz65_7 := blk_frozen BK102.out 7
                    have hfz65_8 := blk_frozen BK102.out 8
                    go_wp2
                    refine bodyPost_ret (results_cell_row rfl _ _ gb102 27 #[.int .u64 a0_0, .int .u32 a0_1, .bool a0_2, .string (a0_3.extract 0 ((ji5) : Int).toNat), .int .i64 (Go.bits .and .i64 a0_4 4095), .string t105, .int .i64 (Go.bits .and .i64 a0_6 4095), .int .i64 (Go.bits .and .i64 a0_7 4095), .string t104] (0, 0) _ rfl (by (with_reducible repeat (first | refine blk_drewN ?_ _ | refine blk_drew ?_ | refine blk_alloc ?_ _)); refine blk_put (cs := #[.int .u64 a0_0, .int .u32 a0_1, .bool a0_2, .string (a0_3.extract 0 ((ji5) : Int).toNat), .int .i64 (Go.bits .and .i64 a0_4 4095), .string t105, .int .i64 (Go.bits .and .i64 a0_6 4095), .int .i64 (Go.bits .and .i64 a0_7 4095), .string (⟨#[]⟩ : ByteArray)]) ?_ 8 _ rfl; (with_reducible repeat (first | refine blk_drewN ?_ _ | refine blk_drew ?_ | refine blk_alloc ?_ _)); refine blk_put (cs := #[.int .u64 a0_0, .int .u32 a0_1, .bool a0_2, .string (a0_3.extract 0 ((ji5) : Int).toNat), .int .i64 (Go.bits .and .i64 a0_4 4095), .string t105, .int .i64 (Go.bits .and .i64 a0_6 4095), .int .i64 0, .string (⟨#[]⟩ : ByteArray)]) ?_ 7 _ rfl; (with_reducible repeat (first | refine blk_drewN ?_ _ | refine blk_drew ?_ | refine blk_alloc ?_ _)); refine blk_put (cs := #[.int .u64 a0_0, .int .u32 a0_1, .bool a0_2, .string (a0_3.extract 0 ((ji5) : Int).toNat), .int .i64 (Go.bits .and .i64 a0_4 4095), .string t105, .int .i64 0, .int .i64 0, .string (⟨#[]⟩ : ByteArray)]) ?_ 6 _ rfl; (with_reducible repeat (first | refine blk_drewN ?_ _ | refine blk_drew ?_ | refine blk_alloc ?_ _)); refine blk_put (cs := #[.int .u64 a0_0, .int .u32 a0_1, .bool a0_2, .string (a0_3.extract 0 ((ji5) : Int).toNat), .int .i64 (Go.bits .and .i64 a0_4 4095), .string (⟨#[]⟩ : ByteArray), .int .i64 0, .int .i64 0, .string (⟨#[]⟩ : ByteArray)]) ?_ 5 _ rfl; (with_reducible repeat (first | refine blk_drewN ?_ _ | refine blk_drew ?_ | refine blk_alloc ?_ _)); refine blk_put (cs := #[.int .u64 a0_0, .int .u32 a0_1, .bool a0_2, .string (a0_3.extract 0 ((ji5) : Int).toNat), .int .i64 0, .string (⟨#[]⟩ : ByteArray), .int .i64 0, .int .i64 0, .string (⟨#[]⟩ : ByteArray)]) ?_ 4 _ rfl; (with_reducible repeat (first | refine blk_drewN ?_ _ | refine blk_drew ?_ | refine blk_alloc ?_ _)); refine blk_put (cs := #[.int .u64 a0_0, .int .u32 a0_1, .bool a0_2, .string (⟨#[]⟩ : ByteArray), .int .i64 0, .string (⟨#[]⟩ : ByteArray), .int .i64 0, .int .i64 0, .string (⟨#[]⟩ : ByteArray)]) ?_ 3 _ rfl; (with_reducible repeat (first | refine blk_drewN ?_ _ | refine blk_drew ?_ | refine blk_alloc ?_ _)); refine blk_put (cs := #[.int .u64 a0_0, .int .u32 a0_1, .bool false, .string (⟨#[]⟩ : ByteArray), .int .i64 0, .string (⟨#[]⟩ : ByteArray), .int .i64 0, .int .i64 0, .string (⟨#[]⟩ : ByteArray)]) ?_ 2 _ rfl; (with_reducible repeat (first | refine blk_drewN ?_ _ | refine blk_drew ?_ | refine blk_alloc ?_ _)); refine blk_put (cs := #[.int .u64 a0_0, .int .u32 0, .bool false, .string (⟨#[]⟩ : ByteArray), .int .i64 0, .string (⟨#[]⟩ : ByteArray), .int .i64 0, .int .i64 0, .string (⟨#[]⟩ : ByteArray)]) ?_ 1 _ rfl; (with_reducible repeat (first | refine blk_drewN ?_ _ | refine blk_drew ?_ | refine blk_alloc ?_ _)); refine blk_put (cs := #[.int .u64 0, .int .u32 0, .bool false, .string (⟨#[]⟩ : ByteArray), .int .i64 0, .string (⟨#[]⟩ : ByteArray), .int .i64 0, .int .i64 0, .string (⟨#[]⟩ : ByteArray)]) ?_ 0 _ rfl; (with_reducible repeat (first | refine blk_drewN ?_ _ | refine blk_drew ?_ | refine blk_alloc ?_ _)); refine blk_far ?_ NB102_103.out _; (with_reducible repeat (first | refine blk_drewN ?_ _ | refine blk_drew ?_ | refine blk_alloc ?_ _)); exact BK102.out) Try.underlying27 rfl (by kernel_rfl)) rfl ?_
                    exact ⟨by first | rfl | (simp [errW_none, errW_some] <;> rfl) | (simp only [← hji5]; first | rfl | (simp [errW_none, errW_some] <;> rfl)) | (simp [*, errW_none, errW_some] <;> rfl), by repeat (first | (with_reducible first | exact HB.out | apply below_alloc | apply pw_below_drewN | apply below_drew1 | refine below_set ?_ GE101.out | refine below_set ?_ GE102.out | refine below_set ?_ GE103.out) | exact HB.out)⟩
                  · rw [if_neg c59] at H
                    have c59b0 : ((Go.bits .and .i64 a1 7) == 4) = false := beq_eq_false_iff_ne.mpr c59
                    have c59b1 : ((Go.bits .and .i64 a1 7) != 4) = true := bne_iff_ne.mpr c59
                    simp only [Option.some.injEq, Prod.mk.injEq] at H
                    obtain ⟨rfl, rfl, rfl, rfl, rfl, rfl, rfl, rfl, rfl⟩ := H
                    have hnb66 := NB103_101.out
                    have hnc66 := NB101_103.out
                    have hnb67 := NB103_102.out
                    have hnc67 := NB102_103.out
                    have hcz68_0 : wc.cell? ⟨gb103, 0, none⟩ = some (.int .u64 a0_0) := (blk_cell BK103.out 0).trans rfl
                    have hcz68_1 : wc.cell? ⟨gb103, 1, none⟩ = some (.int .u32 a0_1) := (blk_cell BK103.out 1).trans rfl
                    have hcz68_2 : wc.cell? ⟨gb103, 2, none⟩ = some (.bool x104002_7) := (blk_cell BK103.out 2).trans rfl
                    have hcz68_3 : wc.cell? ⟨gb103, 3, none⟩ = some (.string (a0_3.extract 0 ((ji5) : Int).toNat)) := (blk_cell BK103.out 3).trans rfl
                    have hcz68_4 : wc.cell? ⟨gb103, 4, none⟩ = some (.int .i64 (Go.bits .and .i64 a0_4 4095)) := (blk_cell BK103.out 4).trans rfl
                    have hcz68_5 : wc.cell? ⟨gb103, 5, none⟩ = some (.string t105) := (blk_cell BK103.out 5).trans rfl
                    have hcz68_6 : wc.cell? ⟨gb103, 6, none⟩ = some (.int .i64 (Go.bits .and .i64 a0_6 4095)) := (blk_cell BK103.out 6).trans rfl
                    have hcz68_7 : wc.cell? ⟨gb103, 7, none⟩ = some (.int .i64 (Go.bits .and .i64 a0_7 4095)) := (blk_cell BK103.out 7).trans rfl
                    have hcz68_8 : wc.cell? ⟨gb103, 8, none⟩ = some (.string t104) := (blk_cell BK103.out 8).trans rfl
                    have hfz68_0 := blk_frozen BK103.out 0
                    have hfz68_1 := blk_frozen BK103.out 1
                    have hfz68_2 := blk_frozen BK103.out 2
                    have hfz68_3 := blk_frozen BK103.out 3
                    have hfz68_4 := blk_frozen BK103.out 4
                    have hfz68_5 := blk_frozen BK103.out 5
                    have hfz68_6 := blk_frozen BK103.out 6
                    have hfz68_7 := blk_frozen BK103.out 7
                    have hfz68_8 := blk_frozen BK103.out 8
                    have hnb69 := NB102_101.out
                    have hnc69 := NB101_102.out
                    have hcz70_0 : wc.cell? ⟨gb102, 0, none⟩ = some (.int .u64 0) := (blk_cell BK102.out 0).trans rfl
                    have hcz70_1 : wc.cell? ⟨gb102, 1, none⟩ = some (.int .u32 0) := (blk_cell BK102.out 1).trans rfl
                    have hcz70_2 : wc.cell? ⟨gb102, 2, none⟩ = some (.bool false) := (blk_cell BK102.out 2).trans rfl
                    have hcz70_3 : wc.cell? ⟨gb102, 3, none⟩ = some (.string (⟨#[]⟩ : ByteArray)) := (blk_cell BK102.out 3).trans rfl
                    have hcz70_4 : wc.cell? ⟨gb102, 4, none⟩ = some (.int .i64 0) := (blk_cell BK102.out 4).trans rfl
                    have hcz70_5 : wc.cell? ⟨gb102, 5, none⟩ = some (.string (⟨#[]⟩ : ByteArray)) := (blk_cell BK102.out 5).trans rfl
                    have hcz70_6 : wc.cell? ⟨gb102, 6, none⟩ = some (.int .i64 0) := (blk_cell BK102.out 6).trans rfl
                    have hcz70_7 : wc.cell? ⟨gb102, 7, none⟩ = some (.int .i64 0) := (blk_cell BK102.out 7).trans rfl
                    have hcz70_8 : wc.cell? ⟨gb102, 8, none⟩ = some (.string (⟨#[]⟩ : ByteArray)) := (blk_cell BK102.out 8).trans rfl
                    have hfz70_0 := blk_frozen BK102.out 0
                    have hfz70_1 := blk_frozen BK102.out 1
                    have hfz70_2 := blk_frozen BK102.out 2
                    have hfz70_3 := blk_frozen BK102.out 3
                    have hfz70_4 := blk_frozen BK102.out 4
                    have hfz70_5 := blk_frozen BK102.out 5
                    have hfz70_6 := blk_frozen BK102.out 6
                    have hfz70_7 := blk_frozen BK102.out 7
                    have hfz70_8 := blk_frozen BK102.out 8
                    go_wp2
                    refine bodyPost_ret (results_cell_row rfl _ _ gb102 27 #[.int .u64 a0_0, .int .u32 a0_1, .bool x104002_7, .string (a0_3.extract 0 ((ji5) : Int).toNat), .int .i64 (Go.bits .and .i64 a0_4 4095), .string t105, .int .i64 (Go.bits .and .i64 a0_6 4095), .int .i64 (Go.bits .and .i64 a0_7 4095), .string t104] (0, 0) _ rfl (by (with_reducible repeat (first | refine blk_drewN ?_ _ | refine blk_drew ?_ | refine blk_alloc ?_ _)); refine blk_put (cs := #[.int .u64 a0_0, .int .u32 a0_1, .bool x104002_7, .string (a0_3.extract 0 ((ji5) : Int).toNat), .int .i64 (Go.bits .and .i64 a0_4 4095), .string t105, .int .i64 (Go.bits .and .i64 a0_6 4095), .int .i64 (Go.bits .and .i64 a0_7 4095), .string (⟨#[]⟩ : ByteArray)]) ?_ 8 _ rfl; (with_reducible repeat (first | refine blk_drewN ?_ _ | refine blk_drew ?_ | refine blk_alloc ?_ _)); refine blk_put (cs := #[.int .u64 a0_0, .int .u32 a0_1, .bool x104002_7, .string (a0_3.extract 0 ((ji5) : Int).toNat), .int .i64 (Go.bits .and .i64 a0_4 4095), .string t105, .int .i64 (Go.bits .and .i64 a0_6 4095), .int .i64 0, .string (⟨#[]⟩ : ByteArray)]) ?_ 7 _ rfl; (with_reducible repeat (first | refine blk_drewN ?_ _ | refine blk_drew ?_ | refine blk_alloc ?_ _)); refine blk_put (cs := #[.int .u64 a0_0, .int .u32 a0_1, .bool x104002_7, .string (a0_3.extract 0 ((ji5) : Int).toNat), .int .i64 (Go.bits .and .i64 a0_4 4095), .string t105, .int .i64 0, .int .i64 0, .string (⟨#[]⟩ : ByteArray)]) ?_ 6 _ rfl; (with_reducible repeat (first | refine blk_drewN ?_ _ | refine blk_drew ?_ | refine blk_alloc ?_ _)); refine blk_put (cs := #[.int .u64 a0_0, .int .u32 a0_1, .bool x104002_7, .string (a0_3.extract 0 ((ji5) : Int).toNat), .int .i64 (Go.bits .and .i64 a0_4 4095), .string (⟨#[]⟩ : ByteArray), .int .i64 0, .int .i64 0, .string (⟨#[]⟩ : ByteArray)]) ?_ 5 _ rfl; (with_reducible repeat (first | refine blk_drewN ?_ _ | refine blk_drew ?_ | refine blk_alloc ?_ _)); refine blk_put (cs := #[.int .u64 a0_0, .int .u32 a0_1, .bool x104002_7, .string (a0_3.extract 0 ((ji5) : Int).toNat), .int .i64 0, .string (⟨#[]⟩ : ByteArray), .int .i64 0, .int .i64 0, .string (⟨#[]⟩ : ByteArray)]) ?_ 4 _ rfl; (with_reducible repeat (first | refine blk_drewN ?_ _ | refine blk_drew ?_ | refine blk_alloc ?_ _)); refine blk_put (cs := #[.int .u64 a0_0, .int .u32 a0_1, .bool x104002_7, .string (⟨#[]⟩ : ByteArray), .int .i64 0, .string (⟨#[]⟩ : ByteArray), .int .i64 0, .int .i64 0, .string (⟨#[]⟩ : ByteArray)]) ?_ 3 _ rfl; (with_reducible repeat (first | refine blk_drewN ?_ _ | refine blk_drew ?_ | refine blk_alloc ?_ _)); refine blk_put (cs := #[.int .u64 a0_0, .int .u32 a0_1, .bool false, .string (⟨#[]⟩ : ByteArray), .int .i64 0, .string (⟨#[]⟩ : ByteArray), .int .i64 0, .int .i64 0, .string (⟨#[]⟩ : ByteArray)]) ?_ 2 _ rfl; (with_reducible repeat (first | refine blk_drewN ?_ _ | refine blk_drew ?_ | refine blk_alloc ?_ _)); refine blk_put (cs := #[.int .u64 a0_0, .int .u32 0, .bool false, .string (⟨#[]⟩ : ByteArray), .int .i64 0, .string (⟨#[]⟩ : ByteArray), .int .i64 0, .int .i64 0, .string (⟨#[]⟩ : ByteArray)]) ?_ 1 _ rfl; (with_reducible repeat (first | refine blk_drewN ?_ _ | refine blk_drew ?_ | refine blk_alloc ?_ _)); refine blk_put (cs := #[.int .u64 0, .int .u32 0, .bool false, .string (⟨#[]⟩ : ByteArray), .int .i64 0, .string (⟨#[]⟩ : ByteArray), .int .i64 0, .int .i64 0, .string (⟨#[]⟩ : ByteArray)]) ?_ 0 _ rfl; (with_reducible repeat (first | refine blk_drewN ?_ _ | refine blk_drew ?_ | refine blk_alloc ?_ _)); exact BK102.out) Try.underlying27 rfl (by kernel_rfl)) rfl ?_
                    exact ⟨by first | rfl | (simp [errW_none, errW_some] <;> rfl) | (simp only [← hji5]; first | rfl | (simp [errW_none, errW_some] <;> rfl)) | (simp [*, errW_none, errW_some] <;> rfl), by repeat (first | (with_reducible first | exact HB.out | apply below_alloc | apply pw_below_drewN | apply below_drew1 | refine below_set ?_ GE101.out | refine below_set ?_ GE102.out | refine below_set ?_ GE103.out) | exact HB.out)⟩
    · rw [if_neg c7] at H
      exact absurd H (by simp)
  · rw [if_neg c6] at H
    exact absurd H (by simp)

end Go.Proofs.Ytjmcokidiojanaa.PAnchorPuts
