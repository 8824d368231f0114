import Derived.Test.YtgbhjkkfleeodaaDoorPBlockPutsx0
import Derived.Test.YtgbhjkkfleeodaaDoorPBlockPutsx4
import Derived.Test.YtgbhjkkfleeodaaDoorPBlockPutsx5
import Derived.Test.YtgbhjkkfleeodaaDoorPBlockPutsx6
import Derived.Test.YtgbhjkkfleeodaaDoorPBlockPlacesx1
import Derived.Test.YtgbhjkkfleeodaaDoorBgA
import Derived.Test.YtgbhjkkfleeodaaDoorXB
import Derived.Test.YtgbhjkkfleeodaaDoorXB
namespace Go.Proofs.YtgbhjkkfleeodaaDoor.PBlockPuts
open Go.RowKit Go.Proofs.YtgbhjkkfleeodaaDoorW.PrintWords Go.Proofs.YtgbhjkkfleeodaaDoorW.PrintLast Go.Proofs.YtgbhjkkfleeodaaDoorW.PrintMore Go.Proofs.YtgbhjkkfleeodaaDoor.XA
attribute [local go_sem] max2_int min2_int max_two min_two max_three min_three max_four min_four
set_option linter.unusedVariables false
set_option linter.unusedSimpArgs false
abbrev zg2_0 : Array Bool := #[false, false, false, false, false, false, false, false, false, false, false, false, false, false, false, false, false, false, false, false, false, false]
abbrev zg2_1 : Array Bool := #[true, false, false, false, false, false, false, false, false, false, false, false, false, false, false, false, false, false, false, false, false, false]
abbrev zg2_2 : Array Bool := #[true, true, false, false, false, false, false, false, false, false, false, false, false, false, false, false, false, false, false, false, false, false]
abbrev zg2_3 : Array Bool := #[true, true, true, false, false, false, false, false, false, false, false, false, false, false, false, false, false, false, false, false, false, false]
abbrev zg2_4 : Array Bool := #[true, true, true, true, false, false, false, false, false, false, false, false, false, false, false, false, false, false, false, false, false, false]
abbrev zg2_5 : Array Bool := #[true, true, true, true, true, false, false, false, false, false, false, false, false, false, false, false, false, false, false, false, false, false]
abbrev zg2_6 : Array Bool := #[true, true, true, true, true, true, false, false, false, false, false, false, false, false, false, false, false, false, false, false, false, false]
abbrev zg2_7 : Array Bool := #[true, true, true, true, true, true, true, false, false, false, false, false, false, false, false, false, false, false, false, false, false, false]
abbrev zg2_8 : Array Bool := #[true, true, true, true, true, true, true, true, false, false, false, false, false, false, false, false, false, false, false, false, false, false]
abbrev zg2_9 : Array Bool := #[true, true, true, true, true, true, true, true, true, false, false, false, false, false, false, false, false, false, false, false, false, false]
abbrev zg2_10 : Array Bool := #[true, true, true, true, true, true, true, true, true, true, false, false, false, false, false, false, false, false, false, false, false, false]
abbrev zg2_11 : Array Bool := #[true, true, true, true, true, true, true, true, true, true, true, false, false, false, false, false, false, false, false, false, false, false]
abbrev zg2_12 : Array Bool := #[true, true, true, true, true, true, true, true, true, true, true, true, false, false, false, false, false, false, false, false, false, false]
abbrev zg2_13 : Array Bool := #[true, true, true, true, true, true, true, true, true, true, true, true, true, false, false, false, false, false, false, false, false, false]
abbrev zg2_14 : Array Bool := #[true, true, true, true, true, true, true, true, true, true, true, true, true, true, false, false, false, false, false, false, false, false]
abbrev zg2_15 : Array Bool := #[true, true, true, true, true, true, true, true, true, true, true, true, true, true, false, false, true, false, false, false, false, false]
abbrev zg2_16 : Array Bool := #[true, true, true, true, true, true, true, true, true, true, true, true, true, true, false, false, true, true, false, false, false, false]
abbrev zg2_17 : Array Bool := #[true, true, true, true, true, true, true, true, true, true, true, true, true, true, true, false, true, true, false, false, false, false]
abbrev zg2_18 : Array Bool := #[true, true, true, true, true, true, true, true, true, true, true, true, true, true, true, true, true, true, false, false, false, false]
abbrev zg2_19 : Array Bool := #[true, true, true, true, true, true, true, true, true, true, true, true, true, true, true, true, true, true, true, false, false, false]
abbrev zg2_20 : Array Bool := #[true, true, true, true, true, true, true, true, true, true, true, true, true, true, true, true, true, true, true, true, false, false]
abbrev zg2_21 : Array Bool := #[true, true, true, true, true, true, true, true, true, true, true, true, true, true, true, true, true, true, true, true, true, false]
abbrev zg2_22 : Array Bool := #[true, true, true, true, true, true, true, true, true, true, true, true, true, true, true, true, true, true, true, true, true, true]
set_option linter.unnecessarySimpa false
attribute [local go_sem high] eqA25
/-! ### lodestonelaw11_BlockGets: function 4 -/
def lodestonelaw11_BlockGets.j0 : Nat → Int → Bool → ByteArray → Option (Bool)
 | 0, _, _, _ => none
 | k + 1, x1, x2, x8 => if x2 = true then (if 0 ≤ 512 then (if 512 ≤ (x8.size : Int) then ((block_Head.f (x8.extract 0 512)).bind fun bt229 => ((lodestoneref09_Keys.f k (⟨#[109, 97, 115, 116, 101, 114]⟩ : ByteArray) bt229.1).bind fun bt234 => (if 0 ≤ 480 then (if 480 ≤ (x8.size : Int) then ((some (([((x1) % 4294967296) / 16777216, (((x1) % 4294967296) / 65536) % 256, (((x1) % 4294967296) / 256) % 256, ((x1) % 4294967296) % 256] : List Int) : List Int)).bind fun y236 => (if 4 ≤ 480 then (if (strOfNums y236).size + (x8.extract 4 480).size ≤ 9223372036854775807 then ((lodestoneref01_Tag.f bt234.2 ((strOfNums y236) ++ (x8.extract 4 480))).bind fun t239 => (if (x8.extract 0 480).size + t239.size ≤ 9223372036854775807 then ((block_Get.f k (⟨#[109, 97, 115, 116, 101, 114]⟩ : ByteArray) x1 ((x8.extract 0 480) ++ t239)).bind fun bt240 => ((lodestoneref11_Get.f k (⟨#[109, 97, 115, 116, 101, 114]⟩ : ByteArray) x1 ((x8.extract 0 480) ++ t239)).bind fun bt246 => ((lodestonelaw11_awake.f k).bind fun t252 => (if t252 = true then (if bt240.2.2.2.2 = bt246.2.2.2.2 then (if (bt240.1 == bt246.1 && (bt240.2.1 == bt246.2.1 && (bt240.2.2.1 == bt246.2.2.1))) = true then (some (bt240.2.2.2.1.toList == bt246.2.2.2.1.toList)) else (some false)) else (some false)) else (some false))))) else (none))) else (none)) else (none))) else (none)) else (none)))) else (none)) else (none)) else ((block_Get.f k (⟨#[109, 97, 115, 116, 101, 114]⟩ : ByteArray) x1 x8).bind fun bt253 => ((lodestoneref11_Get.f k (⟨#[109, 97, 115, 116, 101, 114]⟩ : ByteArray) x1 x8).bind fun bt259 => ((lodestonelaw11_awake.f k).bind fun t265 => (if t265 = true then (if bt253.2.2.2.2 = bt259.2.2.2.2 then (if (bt253.1 == bt259.1 && (bt253.2.1 == bt259.2.1 && (bt253.2.2.1 == bt259.2.2.1))) = true then (some (bt253.2.2.2.1.toList == bt259.2.2.2.1.toList)) else (some false)) else (some false)) else (some false)))))
def lodestonelaw11_BlockGets.f (k : Nat) (a0 : ByteArray) (a1 : Int) (a2 : Bool) : Option (Bool) := if (a0.size : Int) > 512 then (lodestonelaw11_BlockGets.j0 k a1 a2 a0) else (lodestonelaw11_BlockGets.j0 k a1 a2 (Bg.pad a0))
theorem lodestonelaw11_BlockGets.mono_l : ∀ k, (∀ y0 y1 y2, LeO (lodestonelaw11_BlockGets.j0 k y0 y1 y2) (lodestonelaw11_BlockGets.j0 (k + 1) y0 y1 y2))
 | 0 => fun _ _ _ r h => by simp [lodestonelaw11_BlockGets.j0] at h
 | k + 1 => by
  have ih0 := lodestonelaw11_BlockGets.mono_l k
  ·intro y0 y1 y2
   unfold lodestonelaw11_BlockGets.j0
   repeat' first
   | (with_reducible exact ih0 _ _ _)
   | (with_reducible exact block_Get.mono _ _ _ _)
   | (with_reducible exact lodestonelaw11_awake.mono _)
   | (with_reducible exact lodestoneref09_Keys.mono _ _ _)
   | (with_reducible exact lodestoneref11_Get.mono _ _ _ _)
   | (with_reducible exact LeO.refl _)
   | (with_reducible exact LeO.none _)
   | (with_reducible refine LeO.ite ?_ ?_)
   | (with_reducible refine LeO.bind ?_ (fun _ => ?_))
   | exact ih0 _ _ _
   | exact block_Get.mono _ _ _ _
   | exact lodestonelaw11_awake.mono _
   | exact lodestoneref09_Keys.mono _ _ _
   | exact lodestoneref11_Get.mono _ _ _ _
   | exact LeO.none _
   | refine LeO.ite ?_ ?_
   | refine LeO.bind ?_ (fun _ => ?_)
theorem lodestonelaw11_BlockGets.mono : ∀ a0 a1 a2 k, LeO (lodestonelaw11_BlockGets.f k a0 a1 a2) (lodestonelaw11_BlockGets.f (k + 1) a0 a1 a2) := by
 intro a0 a1 a2 k
 have ih0 := lodestonelaw11_BlockGets.mono_l k
 unfold lodestonelaw11_BlockGets.f
 repeat' first
   | (with_reducible exact ih0 _ _ _)
   | (with_reducible exact block_Get.mono _ _ _ _)
   | (with_reducible exact lodestonelaw11_awake.mono _)
   | (with_reducible exact lodestoneref09_Keys.mono _ _ _)
   | (with_reducible exact lodestoneref11_Get.mono _ _ _ _)
   | (with_reducible exact LeO.refl _)
   | (with_reducible exact LeO.none _)
   | (with_reducible refine LeO.ite ?_ ?_)
   | (with_reducible refine LeO.bind ?_ (fun _ => ?_))
   | exact ih0 _ _ _
   | exact block_Get.mono _ _ _ _
   | exact lodestonelaw11_awake.mono _
   | exact lodestoneref09_Keys.mono _ _ _
   | exact lodestoneref11_Get.mono _ _ _ _
   | exact LeO.none _
   | refine LeO.ite ?_ ?_
   | refine LeO.bind ?_ (fun _ => ?_)
def lodestonelaw11_BlockGets.T10 : Bool × List (List Nat × List Nat) := (true, [([], []), ([0], [0]), ([], []), ([], []), ([3], [3]), ([4], [4]), ([], []), ([6], [6]), ([7], [7]), ([], []), ([9], [9]), ([10], [10]), ([], []), ([12], [12]), ([5, 8, 11, 13], [5, 8, 11, 13]), ([14], [14]), ([], []), ([16], [16]), ([15, 17], [15, 17]), ([2, 18], [2, 18]), ([1, 19], [1, 19]), ([20, 19, 0, 1, 2, 3, 4, 5, 6, 7, 8, 9, 10, 11, 12, 13, 14, 15, 16, 17, 18, 19, 20], [0, 16, 20])])
def lodestonelaw11_BlockGets.B10 : List Nat := [0, 1, 0, 0, 8, 24, 0, 64, 192, 0, 512, 1536, 0, 4096, 16376, 32760, 0, 65536, 262136, 524284, 1048575, 2097151]
theorem lodestonelaw11_BlockGets.tab10 : rtab .any (opsOf Tryd.f4 10) = lodestonelaw11_BlockGets.T10 := by kernel_rfl
theorem lodestonelaw11_BlockGets.bits10 : waitsOk lodestonelaw11_BlockGets.T10.2 lodestonelaw11_BlockGets.B10 = true := by kernel_rfl
set_option maxHeartbeats 8000000 in
set_option maxRecDepth 100000 in
theorem lodestonelaw11_BlockGets.calls (k : Nat) (a0 : ByteArray) (a1 : Int) (a2 : Bool) (r : Bool) (w : World) (hG_ : Go.Proofs.YtgbhjkkfleeodaaDoor.Sha.SL w) (h : lodestonelaw11_BlockGets.f k a0 a1 a2 = some r) (hr : r = true) :
  Calls Tryd.prog 4 #[.string a0, .int .i64 a1, .bool a2] w fun e w' => e = .returned (.bool r) ∧ Below w.heap.size w w' := by
 have HR_ := Aside0.mk hr
 clear hr
 have HG_ := Aside0.mk hG_
 clear hG_
 have hu25 := Tryd.underlying25
 have HB := Aside0.mk (Below.refl w.heap.size w)
 have H : (if (a0.size : Int) > 512 then (lodestonelaw11_BlockGets.j0 k a1 a2 a0) else (lodestonelaw11_BlockGets.j0 k a1 a2 (Bg.pad a0))) = some r := h
 clear h
 have HC4 := Aside0.mk H
 clear H
 have km : ∀ W : World, (Instr.makeSlice 34 (.int .i64 512) (.int .i64 512)).run Tryd.prog W = .ok (.slice (some ⟨W.heap.size, 0, none⟩) 512 512) (W.alloc (.cells (arrK .u8 Bg.z512) 5)) := by
  intro W
  have := print_make (P := Tryd.prog) 34 5 .u8 1 Tryd.underlying34 (by kernel_rfl) (by decide) 512 (by decide) W
  rw [Bg.made512] at this
  exact this
 have LX := Aside0.mk (Nat.le_refl w.heap.size)
 go_enter Tryd.func4, Tryd.ntmps4
 go_upto_if 28 with ((with_reducible refine gate_builtin (b := .copy) (xs := #[.tmp 21, .tmp 22]) rfl ?_); refine Hm.copy_run _ rfl (.tmp 21) (.tmp 22) 34 9 rfl _ _ rfl rfl (Bg.run_copy_any _ 34 9 _ 5 _ 0 512 512 a0 _ rfl (arrK .u8 Bg.z512) 5 Tryd.underlying34 (by kernel_rfl) (blk_new _ _) (by rw [arrK_size]; have := Bg.cut_le a0; simp [Bg.z512]; omega)) ?_; rw [Bg.copied5 _ (Bg.cut_le a0), ← Bg.padL5]; have n1 := Aside0.mk (show IsArr ((w.alloc (.cells (arrK .u8 Bg.z512) 5)).setRow w.heap.size (arrK .u8 (Bg.padL5 a0))) w.heap.size 5 .u8 (Bg.padL5 a0) from setRow_heap _ _ _ _ _ _ (blk_new w _)); have n2 := Aside0.mk ((setRow_blk (w.alloc (.cells (arrK .u8 Bg.z512) 5)) w.heap.size (arrK .u8 (Bg.padL5 a0))).below (below_alloc HB.out _) LX.out); clear HB km; generalize (w.alloc (.cells (arrK .u8 Bg.z512) 5)).setRow w.heap.size (arrK .u8 (Bg.padL5 a0)) = w2 at n1 n2 ⊢; have hr := Bg.arr_reads5 n1.out (Bg.padL5_length a0); have hv := string_of_reads (P := Tryd.prog) Tryd.underlying34 Tryd.underlying5 Tryd.underlying9 hr (c := 512); rw [show strOfNums (Bg.padL5 a0) = Bg.pad a0 from rfl] at hv; have HB := n2; clear n2 hr)
 go_cut [8] (fun v8 wc => ∃ (kq : Nat) (x8_3 : ByteArray), v8 = .string x8_3 ∧ Aside0 (lodestonelaw11_BlockGets.j0 kq a1 a2 x8_3 = some r) ∧ Aside0 (kq ≤ k) ∧ Aside0 (Below w.heap.size w wc))
 case first =>
  have H := HC4.out
  clear HC4
  by_cases c5 : (a0.size : Int) > 512
  ·rw [if_pos c5] at H
   have c5b0 : decide (512 < (a0.size : Int)) = true := decide_eq_true c5
   have c5b1 : decide (512 < a0.size) = true := decide_eq_true (by omega)
   clear c5
   (first | rw [c5b0] | (simp only [i64_w, i32_w]; rw [c5b0]) | skip)
   have H' := Aside0.mk H
   clear H
   go_wp2
   go_meet
   case rel => exact ⟨_, (a0), (by first | rfl | (simp; done) | (simp [*]; done)), H', ⟨by first | omega | exact Nat.le_refl _⟩, ⟨by repeat (first | (with_reducible first | exact HB.out | apply below_alloc | apply pw_below_drewN | apply below_drew1) | exact HB.out)⟩⟩
  ·rw [if_neg c5] at H
   have c5b0 : decide (512 < (a0.size : Int)) = false := decide_eq_false c5
   have c5b1 : decide (512 < a0.size) = false := decide_eq_false (by omega)
   clear c5
   (first | rw [c5b0] | (simp only [i64_w, i32_w]; rw [c5b0]) | skip)
   have H' := Aside0.mk H
   clear H
   go_wp2
   go_meet
   case rel => exact ⟨_, (Bg.pad a0), (by first | rfl | (simp; done) | (simp [*]; done)), H', ⟨by first | omega | exact Nat.le_refl _⟩, ⟨by repeat (first | (with_reducible first | exact HB.out | apply below_alloc | apply pw_below_drewN | apply below_drew1) | exact HB.out)⟩⟩
 case rest =>
  clear HC4
  try clear p2
  try clear c4
  try clear c5
  try clear c5b0
  try clear c5b1
  obtain ⟨kq, x8_3, rfl, HA, HJ3, HB⟩ := hcut
  cases kq with
  | zero => exact absurd HA.out (by simp [lodestonelaw11_BlockGets.j0])
  | succ kj3 =>
   have H := HA.out
   clear HA
   simp only [lodestonelaw11_BlockGets.j0] at H
   by_cases c6 : a2 = true
   ·subst c6
    have H1 : (if 0 ≤ 512 then (if 512 ≤ (x8_3.size : Int) then ((block_Head.f (x8_3.extract 0 512)).bind fun bt229 => ((lodestoneref09_Keys.f kj3 (⟨#[109, 97, 115, 116, 101, 114]⟩ : ByteArray) bt229.1).bind fun bt234 => (if 0 ≤ 480 then (if 480 ≤ (x8_3.size : Int) then ((some (([((a1) % 4294967296) / 16777216, (((a1) % 4294967296) / 65536) % 256, (((a1) % 4294967296) / 256) % 256, ((a1) % 4294967296) % 256] : List Int) : List Int)).bind fun y236 => (if 4 ≤ 480 then (if (strOfNums y236).size + (x8_3.extract 4 480).size ≤ 9223372036854775807 then ((lodestoneref01_Tag.f bt234.2 ((strOfNums y236) ++ (x8_3.extract 4 480))).bind fun t239 => (if (x8_3.extract 0 480).size + t239.size ≤ 9223372036854775807 then ((block_Get.f kj3 (⟨#[109, 97, 115, 116, 101, 114]⟩ : ByteArray) a1 ((x8_3.extract 0 480) ++ t239)).bind fun bt240 => ((lodestoneref11_Get.f kj3 (⟨#[109, 97, 115, 116, 101, 114]⟩ : ByteArray) a1 ((x8_3.extract 0 480) ++ t239)).bind fun bt246 => ((lodestonelaw11_awake.f kj3).bind fun t252 => (if t252 = true then (if bt240.2.2.2.2 = bt246.2.2.2.2 then (if (bt240.1 == bt246.1 && (bt240.2.1 == bt246.2.1 && (bt240.2.2.1 == bt246.2.2.1))) = true then (some (bt240.2.2.2.1.toList == bt246.2.2.2.1.toList)) else (some false)) else (some false)) else (some false))))) else (none))) else (none)) else (none))) else (none)) else (none)))) else (none)) else (none)) = some r := by rw [if_pos rfl] at H; exact H
    clear H
    have H := H1
    clear H1
    by_cases c7 : 0 ≤ 512
    ·rw [if_pos c7] at H
     have c7b0 := eq_true c7
     have c7b1 : decide (0 ≤ 512) = true := decide_eq_true c7
     clear c7
     by_cases c8 : 512 ≤ (x8_3.size : Int)
     ·rw [if_pos c8] at H
      have c8b0 := eq_true c8
      have c8b1 : decide (512 ≤ (x8_3.size : Int)) = true := decide_eq_true c8
      clear c8
      replace H := Option.bind_eq_some_iff.mp H
      obtain ⟨⟨t229, t230, t231, t232⟩, A90, H⟩ := H
      replace H : ((lodestoneref09_Keys.f kj3 (⟨#[109, 97, 115, 116, 101, 114]⟩ : ByteArray) t229).bind fun bt234 => (if 0 ≤ 480 then (if 480 ≤ (x8_3.size : Int) then ((some (([((a1) % 4294967296) / 16777216, (((a1) % 4294967296) / 65536) % 256, (((a1) % 4294967296) / 256) % 256, ((a1) % 4294967296) % 256] : List Int) : List Int)).bind fun y236 => (if 4 ≤ 480 then (if (strOfNums y236).size + (x8_3.extract 4 480).size ≤ 9223372036854775807 then ((lodestoneref01_Tag.f bt234.2 ((strOfNums y236) ++ (x8_3.extract 4 480))).bind fun t239 => (if (x8_3.extract 0 480).size + t239.size ≤ 9223372036854775807 then ((block_Get.f kj3 (⟨#[109, 97, 115, 116, 101, 114]⟩ : ByteArray) a1 ((x8_3.extract 0 480) ++ t239)).bind fun bt240 => ((lodestoneref11_Get.f kj3 (⟨#[109, 97, 115, 116, 101, 114]⟩ : ByteArray) a1 ((x8_3.extract 0 480) ++ t239)).bind fun bt246 => ((lodestonelaw11_awake.f kj3).bind fun t252 => (if t252 = true then (if bt240.2.2.2.2 = bt246.2.2.2.2 then (if (bt240.1 == bt246.1 && (bt240.2.1 == bt246.2.1 && (bt240.2.2.1 == bt246.2.2.1))) = true then (some (bt240.2.2.2.1.toList == bt246.2.2.2.1.toList)) else (some false)) else (some false)) else (some false))))) else (none))) else (none)) else (none))) else (none)) else (none))) = some r := H
      have A9 := Aside0.mk A90
      clear A90
      replace H := Option.bind_eq_some_iff.mp H
      obtain ⟨⟨t234, t235⟩, A100, H⟩ := H
      replace H : (if 0 ≤ 480 then (if 480 ≤ (x8_3.size : Int) then ((some (([((a1) % 4294967296) / 16777216, (((a1) % 4294967296) / 65536) % 256, (((a1) % 4294967296) / 256) % 256, ((a1) % 4294967296) % 256] : List Int) : List Int)).bind fun y236 => (if 4 ≤ 480 then (if (strOfNums y236).size + (x8_3.extract 4 480).size ≤ 9223372036854775807 then ((lodestoneref01_Tag.f t235 ((strOfNums y236) ++ (x8_3.extract 4 480))).bind fun t239 => (if (x8_3.extract 0 480).size + t239.size ≤ 9223372036854775807 then ((block_Get.f kj3 (⟨#[109, 97, 115, 116, 101, 114]⟩ : ByteArray) a1 ((x8_3.extract 0 480) ++ t239)).bind fun bt240 => ((lodestoneref11_Get.f kj3 (⟨#[109, 97, 115, 116, 101, 114]⟩ : ByteArray) a1 ((x8_3.extract 0 480) ++ t239)).bind fun bt246 => ((lodestonelaw11_awake.f kj3).bind fun t252 => (if t252 = true then (if bt240.2.2.2.2 = bt246.2.2.2.2 then (if (bt240.1 == bt246.1 && (bt240.2.1 == bt246.2.1 && (bt240.2.2.1 == bt246.2.2.1))) = true then (some (bt240.2.2.2.1.toList == bt246.2.2.2.1.toList)) else (some false)) else (some false)) else (some false))))) else (none))) else (none)) else (none))) else (none)) else (none)) = some r := H
      have A10 := Aside0.mk A100
      clear A100
      by_cases c11 : 0 ≤ 480
      ·rw [if_pos c11] at H
       have c11b0 := eq_true c11
       have c11b1 : decide (0 ≤ 480) = true := decide_eq_true c11
       clear c11
       by_cases c12 : 480 ≤ (x8_3.size : Int)
       ·rw [if_pos c12] at H
        have c12b0 := eq_true c12
        have c12b1 : decide (480 ≤ (x8_3.size : Int)) = true := decide_eq_true c12
        clear c12
        obtain ⟨y236, hy236⟩ : ∃ y_ : List Int, y_ = (([((a1) % 4294967296) / 16777216, (((a1) % 4294967296) / 65536) % 256, (((a1) % 4294967296) / 256) % 256, ((a1) % 4294967296) % 256] : List Int)) := ⟨_, rfl⟩
        replace H : (if 4 ≤ 480 then (if (strOfNums y236).size + (x8_3.extract 4 480).size ≤ 9223372036854775807 then ((lodestoneref01_Tag.f t235 ((strOfNums y236) ++ (x8_3.extract 4 480))).bind fun t239 => (if (x8_3.extract 0 480).size + t239.size ≤ 9223372036854775807 then ((block_Get.f kj3 (⟨#[109, 97, 115, 116, 101, 114]⟩ : ByteArray) a1 ((x8_3.extract 0 480) ++ t239)).bind fun bt240 => ((lodestoneref11_Get.f kj3 (⟨#[109, 97, 115, 116, 101, 114]⟩ : ByteArray) a1 ((x8_3.extract 0 480) ++ t239)).bind fun bt246 => ((lodestonelaw11_awake.f kj3).bind fun t252 => (if t252 = true then (if bt240.2.2.2.2 = bt246.2.2.2.2 then (if (bt240.1 == bt246.1 && (bt240.2.1 == bt246.2.1 && (bt240.2.2.1 == bt246.2.2.1))) = true then (some (bt240.2.2.2.1.toList == bt246.2.2.2.1.toList)) else (some false)) else (some false)) else (some false))))) else (none))) else (none)) else (none)) = some r := by first | (rw [hy236]; with_reducible exact H) | (have H2_ := (Option.bind_some _ _).symm.trans H; rw [hy236]; with_reducible exact H2_) | (have H2_ := (Option.bind_some _ _).symm.trans H; with_reducible exact H2_) | with_reducible exact H | (rw [hy236]; exact H) | exact H
        have Ny236 := Aside0.mk hy236
        clear hy236
        by_cases c13 : 4 ≤ 480
        ·rw [if_pos c13] at H
         have c13b0 := eq_true c13
         have c13b1 : decide (4 ≤ 480) = true := decide_eq_true c13
         clear c13
         have c14b0 := eq_true (of_decide_eq_true (by first | (with_reducible assumption) | assumption) : 480 ≤ (x8_3.size : Int))
         by_cases c15 : (strOfNums y236).size + (x8_3.extract 4 480).size ≤ 9223372036854775807
         ·rw [if_pos c15] at H
          have c15b0 := eq_true c15
          have c15e := c15
          simp only [ByteArray.size_append, ByteArray.size_extract, Nat.min_self] at c15e
          have c15b8 := eq_false (Nat.not_lt.2 c15e)
          have c15w : IntKind.u64.wrap ((strOfNums y236).size + (x8_3.extract 4 480).size : Int) = ((strOfNums y236).size + (x8_3.extract 4 480).size : Int) := by simp only [IntKind.wrap, IntKind.bits, IntKind.signed]; simp; omega
          have c15b1 : decide ((strOfNums y236).size + (x8_3.extract 4 480).size ≤ 9223372036854775807) = true := decide_eq_true c15
          try have c15b2 : (9223372036854775807 < (strOfNums y236).size + (x8_3.extract 4 480).size) = False := eq_false (Nat.not_lt.2 c15)
          replace H := Option.bind_eq_some_iff.mp H
          obtain ⟨t239, A160, H⟩ := H
          replace H : (if (x8_3.extract 0 480).size + t239.size ≤ 9223372036854775807 then ((block_Get.f kj3 (⟨#[109, 97, 115, 116, 101, 114]⟩ : ByteArray) a1 ((x8_3.extract 0 480) ++ t239)).bind fun bt240 => ((lodestoneref11_Get.f kj3 (⟨#[109, 97, 115, 116, 101, 114]⟩ : ByteArray) a1 ((x8_3.extract 0 480) ++ t239)).bind fun bt246 => ((lodestonelaw11_awake.f kj3).bind fun t252 => (if t252 = true then (if bt240.2.2.2.2 = bt246.2.2.2.2 then (if (bt240.1 == bt246.1 && (bt240.2.1 == bt246.2.1 && (bt240.2.2.1 == bt246.2.2.1))) = true then (some (bt240.2.2.2.1.toList == bt246.2.2.2.1.toList)) else (some false)) else (some false)) else (some false))))) else (none)) = some r := H
          have A16 := Aside0.mk A160
          clear A160
          by_cases c17 : (x8_3.extract 0 480).size + t239.size ≤ 9223372036854775807
          ·rw [if_pos c17] at H
           have c17b0 := eq_true c17
           have c17e := c17
           simp only [ByteArray.size_append, ByteArray.size_extract, Nat.min_self, Nat.sub_zero] at c17e
           have c17b8 := eq_false (Nat.not_lt.2 c17e)
           have c17b1 : decide ((x8_3.extract 0 480).size + t239.size ≤ 9223372036854775807) = true := decide_eq_true c17
           try have c17b2 : (9223372036854775807 < (x8_3.extract 0 480).size + t239.size) = False := eq_false (Nat.not_lt.2 c17)
           replace H := Option.bind_eq_some_iff.mp H
           obtain ⟨⟨t240, t241, t242, t243, t244⟩, A180, H⟩ := H
           replace H : ((lodestoneref11_Get.f kj3 (⟨#[109, 97, 115, 116, 101, 114]⟩ : ByteArray) a1 ((x8_3.extract 0 480) ++ t239)).bind fun bt246 => ((lodestonelaw11_awake.f kj3).bind fun t252 => (if t252 = true then (if t244 = bt246.2.2.2.2 then (if (t240 == bt246.1 && (t241 == bt246.2.1 && (t242 == bt246.2.2.1))) = true then (some (t243.toList == bt246.2.2.2.1.toList)) else (some false)) else (some false)) else (some false)))) = some r := H
           have A18 := Aside0.mk A180
           clear A180
           replace H := Option.bind_eq_some_iff.mp H
           obtain ⟨⟨t246, t247, t248, t249, t250⟩, A190, H⟩ := H
           replace H : ((lodestonelaw11_awake.f kj3).bind fun t252 => (if t252 = true then (if t244 = t250 then (if (t240 == t246 && (t241 == t247 && (t242 == t248))) = true then (some (t243.toList == t249.toList)) else (some false)) else (some false)) else (some false))) = some r := H
           have A19 := Aside0.mk A190
           clear A190
           replace H := Option.bind_eq_some_iff.mp H
           obtain ⟨t252, A200, H⟩ := H
           replace H : (if t252 = true then (if t244 = t250 then (if (t240 == t246 && (t241 == t247 && (t242 == t248))) = true then (some (t243.toList == t249.toList)) else (some false)) else (some false)) else (some false)) = some r := H
           have A20 := Aside0.mk A200
           clear A200
           by_cases c21 : t252 = true
           ·subst c21
            have H1 : (if t244 = t250 then (if (t240 == t246 && (t241 == t247 && (t242 == t248))) = true then (some (t243.toList == t249.toList)) else (some false)) else (some false)) = some r := by rw [if_pos rfl] at H; exact H
            clear H
            have H := H1
            clear H1
            by_cases c22 : t244 = t250
            ·rw [if_pos c22] at H
             have c22b0 : (t244 == t250) = true := beq_iff_eq.mpr c22
             have c22b1 : (t244 != t250) = false := bne_eq_false_iff_eq.mpr c22
             clear c22
             by_cases c23 : (t240 == t246 && (t241 == t247 && (t242 == t248))) = true
             ·rw [if_pos c23] at H
              have c23s := c23
              simp only [Bool.and_eq_true, beq_iff_eq] at c23s
              obtain ⟨c23s0, c23s1, c23s2⟩ := c23s
              subst c23s0
              subst c23s1
              subst c23s2
              obtain rfl := Option.some.inj H
              try go_wp2_with (first | ((with_reducible refine gate_callee (f := 9) rfl ?_); refine goesL_ (some 34) rfl rfl Tryd.func9 (by kernel_rfl) rfl #[.string (x8_3.extract 0 512)] rfl (by (try simp only [List.map_toArray, List.map_cons, List.map_nil]); first | done | rfl | (simp only [List.length_drop, List.length_take]; rfl)) ?_; (with_reducible refine (block_Head.calls (x8_3.extract 0 512) t229 t230 t231 t232 _ A9.out).mono ?_); rintro e w24 ⟨rfl, hb⟩; refine ⟨_, rfl, ?_⟩; have n0_ := Aside0.mk (below_step (by repeat (first | (with_reducible first | exact HB.out | apply below_alloc | apply pw_below_drewN | apply below_drew1) | exact HB.out)) hb); clear HB; have HB := n0_; clear n0_; (try clear hb); (try clear hb2); (try clear hk); (try clear hi)) | ((with_reducible refine gate_dst (N := 9) rfl ?_); refine box_event ?hg (N := 9) ?hd (cs := #[.int .u32 0, .int .u64 0, .int .u32 0]) (t := 25) ?hr ?_; (case hd => rfl); (case hg => rfl); (case hr => first | (go_simp; done) | (go_simp; rfl)); intro gb233 hg w25 hbox hb; have n0_ := Aside0.mk (below_step (by repeat (first | (with_reducible first | exact HB.out | apply below_alloc | apply pw_below_drewN | apply below_drew1) | exact HB.out)) hb); have n1_ := Aside0.mk (hbox); have n2_ := Aside0.mk ((by rw [hg]; exact (below_size (by repeat (first | (with_reducible first | exact HB.out | apply below_alloc | apply pw_below_drewN | apply below_drew1) | exact HB.out))) : w.heap.size ≤ gb233)); have n3_ := Aside0.mk ((by rw [hg]; exact (below_size (by repeat (first | (with_reducible first | exact HB.out | apply below_alloc | apply pw_below_drewN | apply below_drew1) | exact HB.out))) : w.heap.size ≤ gb233)); clear HB; have HB := n0_; have BK233 := n1_; have GW233 := n2_; have GE233 := n3_; clear n0_ n1_ n2_ n3_; clear hb hbox hg; have hcz26_0 : w25.cell? ⟨gb233, 0, none⟩ = some (.int .u32 0) := (blk_cell BK233.out 0).trans rfl; have hcz26_1 : w25.cell? ⟨gb233, 1, none⟩ = some (.int .u64 0) := (blk_cell BK233.out 1).trans rfl; have hcz26_2 : w25.cell? ⟨gb233, 2, none⟩ = some (.int .u32 0) := (blk_cell BK233.out 2).trans rfl; have hfz26_0 := blk_frozen BK233.out 0; have hfz26_1 := blk_frozen BK233.out 1; have hfz26_2 := blk_frozen BK233.out 2) | ((with_reducible refine gate_callee (f := 11) rfl ?_); refine goesL_ (some 40) rfl rfl Tryd.func11 (by kernel_rfl) rfl #[.string (⟨#[109, 97, 115, 116, 101, 114]⟩ : ByteArray), .int .u32 t229] rfl (by (try simp only [List.map_toArray, List.map_cons, List.map_nil]); first | done | rfl | (simp only [List.length_drop, List.length_take]; rfl)) ?_; (with_reducible refine (lodestoneref09_Keys.calls kj3 (⟨#[109, 97, 115, 116, 101, 114]⟩ : ByteArray) t229 t234 t235 _ A10.out).mono ?_); rintro e w27 ⟨rfl, hb⟩; refine ⟨_, rfl, ?_⟩; have n0_ := Aside0.mk (blk_below (g := gb233) (o := .cells #[.int .u32 t229, .int .u64 t230, .int .u32 t231] 25 (0, 0)) (by (with_reducible repeat (first | refine blk_drewN ?_ _ | refine blk_drew ?_ | refine blk_alloc ?_ _)); refine blk_put (cs := #[.int .u32 t229, .int .u64 t230, .int .u32 0]) ?_ 2 _ rfl; (with_reducible repeat (first | refine blk_drewN ?_ _ | refine blk_drew ?_ | refine blk_alloc ?_ _)); refine blk_put (cs := #[.int .u32 t229, .int .u64 0, .int .u32 0]) ?_ 1 _ rfl; (with_reducible repeat (first | refine blk_drewN ?_ _ | refine blk_drew ?_ | refine blk_alloc ?_ _)); refine blk_put (cs := #[.int .u32 0, .int .u64 0, .int .u32 0]) ?_ 0 _ rfl; (with_reducible repeat (first | refine blk_drewN ?_ _ | refine blk_drew ?_ | refine blk_alloc ?_ _)); exact BK233.out) hb); have n1_ := Aside0.mk (below_step (by repeat (first | (with_reducible first | exact HB.out | apply below_alloc | apply pw_below_drewN | apply below_drew1 | refine below_set ?_ GE233.out) | exact HB.out)) hb); clear BK233; clear HB; have BK233 := n0_; have HB := n1_; clear n0_ n1_; (try clear hb); (try clear hb2); (try clear hk); (try clear hi)))
              have n0_ := Aside0.mk (blk_drew BK233.out)
              have n1_ := Aside0.mk (below_drew1 HB.out)
              clear BK233
              clear HB
              have BK233 := n0_
              have HB := n1_
              clear n0_ n1_
              refine start_ (n := 22) (S := fun w' => True) (ds := []) zg2_0 (by kernel_rfl) rfl rfl trivial (fun hHeld => ?_); refine with_tabW lodestonelaw11_BlockGets.tab10 lodestonelaw11_BlockGets.bits10 (fun HT_ HW_ => ?_)
              generalize w27.drew = w28 at BK233 HB hHeld ⊢
              refine pure_ (i := 0) (N := some 45) (v := ?_) (a' := ?_) zg2_1 rfl rfl (any_of HT_.out (by kernel_rfl)) (fun _ _ _ h => h) (Or.inl ⟨by rfl, ?_⟩) ?_ ?_
              rotate_left
              ·intro w'
               go_simp
               with_reducible rfl
              rotate_left
              ·simp only [Act.put, List.setIfInBounds_toArray, List.set_cons_zero, List.set_cons_succ, i64_w, i32_w]
               rfl
              refine pure_ (i := 1) (N := some 46) (v := ?_) (a' := ?_) zg2_2 rfl rfl (any_of HT_.out (by kernel_rfl)) (fun _ _ _ h => h) (Or.inl ⟨by rfl, ?_⟩) ?_ ?_
              rotate_left
              ·intro w'
               go_simp
               with_reducible rfl
              rotate_left
              ·simp only [Act.put, List.setIfInBounds_toArray, List.set_cons_zero, List.set_cons_succ, i64_w, i32_w]
               rfl
              refine pure_ (i := 2) (N := some 47) (v := ?_) (a' := ?_) zg2_3 rfl rfl (any_of HT_.out (by kernel_rfl)) (fun _ _ _ h => h) (Or.inl ⟨by rfl, ?_⟩) ?_ ?_
              rotate_left
              ·intro w'
               go_simp
               with_reducible rfl
              rotate_left
              ·simp only [Act.put, List.setIfInBounds_toArray, List.set_cons_zero, List.set_cons_succ, i64_w, i32_w]
               rfl
              refine pure_ (i := 3) (N := some 48) (v := ?_) (a' := ?_) zg2_4 rfl rfl (any_of HT_.out (by kernel_rfl)) (fun _ _ _ h => h) (Or.inl ⟨by rfl, ?_⟩) ?_ ?_
              rotate_left
              ·intro w'
               go_simp
               with_reducible rfl
              rotate_left
              ·simp only [Act.put, List.setIfInBounds_toArray, List.set_cons_zero, List.set_cons_succ, i64_w, i32_w]
               rfl
              refine pure_ (i := 4) (N := some 49) (v := ?_) (a' := ?_) zg2_5 rfl rfl (any_of HT_.out (by kernel_rfl)) (fun _ _ _ h => h) (Or.inl ⟨by rfl, ?_⟩) ?_ ?_
              rotate_left
              ·intro w'
               go_simp
               with_reducible rfl
              rotate_left
              ·simp only [Act.put, List.setIfInBounds_toArray, List.set_cons_zero, List.set_cons_succ, i64_w, i32_w]
               rfl
              refine pure_ (i := 5) (N := some 50) (v := ?_) (a' := ?_) zg2_6 rfl rfl (any_of HT_.out (by kernel_rfl)) (fun _ _ _ h => h) (Or.inl ⟨by rfl, ?_⟩) ?_ ?_
              rotate_left
              ·intro w'
               go_simp
               with_reducible rfl
              rotate_left
              ·simp only [Act.put, List.setIfInBounds_toArray, List.set_cons_zero, List.set_cons_succ, i64_w, i32_w]
               rfl
              refine pure_ (i := 6) (N := some 51) (v := ?_) (a' := ?_) zg2_7 rfl rfl (any_of HT_.out (by kernel_rfl)) (fun _ _ _ h => h) (Or.inl ⟨by rfl, ?_⟩) ?_ ?_
              rotate_left
              ·intro w'
               go_simp
               with_reducible rfl
              rotate_left
              ·simp only [Act.put, List.setIfInBounds_toArray, List.set_cons_zero, List.set_cons_succ, i64_w, i32_w]
               rfl
              refine pure_ (i := 7) (N := some 52) (v := ?_) (a' := ?_) zg2_8 rfl rfl (any_of HT_.out (by kernel_rfl)) (fun _ _ _ h => h) (Or.inl ⟨by rfl, ?_⟩) ?_ ?_
              rotate_left
              ·intro w'
               go_simp
               with_reducible rfl
              rotate_left
              ·simp only [Act.put, List.setIfInBounds_toArray, List.set_cons_zero, List.set_cons_succ, i64_w, i32_w]
               rfl
              refine pure_ (i := 8) (N := some 53) (v := ?_) (a' := ?_) zg2_9 rfl rfl (any_of HT_.out (by kernel_rfl)) (fun _ _ _ h => h) (Or.inl ⟨by rfl, ?_⟩) ?_ ?_
              rotate_left
              ·intro w'
               go_simp
               with_reducible rfl
              rotate_left
              ·simp only [Act.put, List.setIfInBounds_toArray, List.set_cons_zero, List.set_cons_succ, i64_w, i32_w]
               rfl
              refine pure_ (i := 9) (N := some 54) (v := ?_) (a' := ?_) zg2_10 rfl rfl (any_of HT_.out (by kernel_rfl)) (fun _ _ _ h => h) (Or.inl ⟨by rfl, ?_⟩) ?_ ?_
              rotate_left
              ·intro w'
               go_simp
               with_reducible rfl
              rotate_left
              ·simp only [Act.put, List.setIfInBounds_toArray, List.set_cons_zero, List.set_cons_succ, i64_w, i32_w]
               rfl
              refine pure_ (i := 10) (N := some 55) (v := ?_) (a' := ?_) zg2_11 rfl rfl (any_of HT_.out (by kernel_rfl)) (fun _ _ _ h => h) (Or.inl ⟨by rfl, ?_⟩) ?_ ?_
              rotate_left
              ·intro w'
               go_simp
               with_reducible rfl
              rotate_left
              ·simp only [Act.put, List.setIfInBounds_toArray, List.set_cons_zero, List.set_cons_succ, i64_w, i32_w]
               rfl
              refine pure_ (i := 11) (N := some 56) (v := ?_) (a' := ?_) zg2_12 rfl rfl (any_of HT_.out (by kernel_rfl)) (fun _ _ _ h => h) (Or.inl ⟨by rfl, ?_⟩) ?_ ?_
              rotate_left
              ·intro w'
               go_simp
               with_reducible rfl
              rotate_left
              ·simp only [Act.put, List.setIfInBounds_toArray, List.set_cons_zero, List.set_cons_succ, i64_w, i32_w]
               rfl
              refine pure_ (i := 12) (N := some 57) (v := ?_) (a' := ?_) zg2_13 rfl rfl (any_of HT_.out (by kernel_rfl)) (fun _ _ _ h => h) (Or.inl ⟨by rfl, ?_⟩) ?_ ?_
              rotate_left
              ·intro w'
               go_simp
               with_reducible rfl
              rotate_left
              ·simp only [Act.put, List.setIfInBounds_toArray, List.set_cons_zero, List.set_cons_succ, i64_w, i32_w]
               rfl
              refine pure_ (i := 13) (N := some 58) (v := ?_) (a' := ?_) zg2_14 rfl rfl (any_of HT_.out (by kernel_rfl)) (fun _ _ _ h => h) (Or.inl ⟨by rfl, ?_⟩) ?_ ?_
              rotate_left
              ·intro w'
               go_simp
               with_reducible rfl
              rotate_left
              ·simp only [Act.put, List.setIfInBounds_toArray, List.set_cons_zero, List.set_cons_succ, i64_w, i32_w]
               rfl
              refine pure_ (i := 16) (N := some 61) (v := ?_) (a' := ?_) zg2_15 rfl rfl (any_of HT_.out (by kernel_rfl)) (fun _ _ _ h => h) (Or.inl ⟨by rfl, ?_⟩) ?_ ?_
              rotate_left
              ·intro w'
               go_simp
               with_reducible rfl
              rotate_left
              ·simp only [Act.put, List.setIfInBounds_toArray, List.set_cons_zero, List.set_cons_succ, i64_w, i32_w]
               rfl
              refine pure_ (i := 17) (N := some 62) (v := ?_) (a' := ?_) zg2_16 rfl rfl (any_of HT_.out (by kernel_rfl)) (fun _ _ _ h => h) (Or.inl ⟨by rfl, ?_⟩) ?_ ?_
              rotate_left
              ·intro w'
               go_simp
               with_reducible rfl
              rotate_left
              ·simp only [Act.put, List.setIfInBounds_toArray, List.set_cons_zero, List.set_cons_succ, i64_w, i32_w]
               rfl
              refine one_ (i := 14) (N := some 59) zg2_17 rfl rfl (one_of HT_.out (by kernel_rfl)) (by decide) (fun K hK => ?_)
              refine Kd.R_lit_step (Kd.int .u8) _ 5 ?hg (N := 59) ?hd (xs := ([((a1) % 4294967296) / 16777216, (((a1) % 4294967296) / 65536) % 256, (((a1) % 4294967296) / 256) % 256, ((a1) % 4294967296) % 256] : List Int)) (inner := [.int .u8 (((a1) % 4294967296) / 16777216), .int .u8 ((((a1) % 4294967296) / 65536) % 256), .int .u8 ((((a1) % 4294967296) / 256) % 256), .int .u8 (((a1) % 4294967296) % 256)]) (ok := fun _ => True) (okp := fun _ => True) ?hr ?hp (fun _ hk => hk) trivial (Below.refl _ _) (Nat.le_refl _) (by simp) ?_; (case hd => rfl); (case hg => rfl); (case hr => go_simp; rw [IntKind.wrap_u8, IntKind.wrap_u8, IntKind.wrap_u8, IntKind.wrap_u8, show (a1 % 4294967296 / 16777216) % 256 = a1 % 4294967296 / 16777216 by omega, show a1 % 4294967296 % 256 = a1 % 256 by omega]); (case hp => exact (Reps.one (show Kd.M (Kd.int .u8) _ _ _ (((a1) % 4294967296) / 16777216) [.int .u8 (((a1) % 4294967296) / 16777216)] from rfl) (Reps.one (show Kd.M (Kd.int .u8) _ _ _ ((((a1) % 4294967296) / 65536) % 256) [.int .u8 ((((a1) % 4294967296) / 65536) % 256)] from rfl) (Reps.one (show Kd.M (Kd.int .u8) _ _ _ ((((a1) % 4294967296) / 256) % 256) [.int .u8 ((((a1) % 4294967296) / 256) % 256)] from rfl) (Reps.one (show Kd.M (Kd.int .u8) _ _ _ (((a1) % 4294967296) % 256) [.int .u8 (((a1) % 4294967296) % 256)] from rfl) (Reps.none _ _))))))
              intro v237 w29 ho30 hb hg_ hnew_
              clear hg_ hnew_
              (first | rw [← Ny236.out] at ho30 | (simp only [Int.reduceToNat] at ho30; rw [← Ny236.out] at ho30))
              have n0_ := Aside0.mk (Kd.R_lower ho30 (below_size (by repeat (first | (with_reducible first | exact HB.out | apply below_alloc | apply pw_below_drewN | apply below_drew1 | refine below_set ?_ GE233.out) | exact HB.out))))
              have n1_ := Aside0.mk (blk_below (g := gb233) (o := .cells #[.int .u32 t229, .int .u64 t230, .int .u32 t231] 25 (0, 0)) (by (with_reducible repeat (first | refine blk_drewN ?_ _ | refine blk_drew ?_ | refine blk_alloc ?_ _)); exact BK233.out) hb)
              have n2_ := Aside0.mk (below_step (by repeat (first | (with_reducible first | exact HB.out | apply below_alloc | apply pw_below_drewN | apply below_drew1 | refine below_set ?_ GE233.out) | exact HB.out)) hb)
              clear BK233
              clear HB
              have HO238 := n0_
              have BK233 := n1_
              have HB := n2_
              clear n0_ n1_ n2_
              clear hb ho30
              refine hK.out _ _ trivial (fun hHeld => ?_)
              clear hK K
              refine norm_ (a' := ?_) ?_ ?_
              rotate_left
              ·show Act.put _ (some 59) _ = _
               simp only [Act.put, List.setIfInBounds_toArray, List.set_cons_zero, List.set_cons_succ, i64_w, i32_w]
               rfl
              refine one_ (i := 15) (N := some 60) zg2_18 rfl rfl (one_of HT_.out (by kernel_rfl)) (by decide) (fun K hK => ?_)
              have hcv31 := own_string (P := Tryd.prog) Tryd.underlying34 Tryd.underlying5 Tryd.underlying9 (Kd.own_of_R HO238.out)
              refine value_ (w1 := ?_) (v := ?_) (by rfl) rfl ?_ ?_
              rotate_left 2
              ·go_simp
               constructor
               ·rfl
               ·rfl
              clear hcv31
              refine hK.out _ _ trivial (fun hHeld => ?_)
              clear hK K
              refine norm_ (a' := ?_) ?_ ?_
              rotate_left
              ·show Act.put _ (some 60) _ = _
               simp only [Act.put, List.setIfInBounds_toArray, List.set_cons_zero, List.set_cons_succ, i64_w, i32_w]
               rfl
              refine pure_ (i := 18) (N := some 63) (v := ?_) (a' := ?_) zg2_19 rfl rfl (any_of HT_.out (by kernel_rfl)) (fun _ _ _ h => h) (Or.inl ⟨by rfl, ?_⟩) ?_ ?_
              rotate_left
              ·intro w'
               go_simp
               with_reducible rfl
              rotate_left
              ·simp only [Act.put, List.setIfInBounds_toArray, List.set_cons_zero, List.set_cons_succ, i64_w, i32_w]
               rfl
              refine one_ (i := 19) (N := some 64) zg2_20 rfl rfl (one_of HT_.out (by kernel_rfl)) (by decide) (fun K hK => ?_)
              refine goes_ Tryd.func12 (by kernel_rfl) rfl #[.string t235, .string ((strOfNums y236) ++ (x8_3.extract 4 480))] (by rfl) rfl rfl (by (try simp only [List.map_toArray, List.map_cons, List.map_nil]); first | done | rfl | (simp only [List.length_drop, List.length_take]; rfl)) ?_
              with_reducible refine (lodestoneref01_Tag.calls t235 ((strOfNums y236) ++ (x8_3.extract 4 480)) t239 _ A16.out).mono ?_
              rintro e w32 ⟨rfl, hb⟩
              refine ⟨_, rfl, ?_⟩
              have n0_ := Aside0.mk (Kd.R_below (by (with_reducible repeat (first | apply Kd.R_alloc | apply Kd.R_drewN | apply Kd.R_drew)); exact HO238.out) hb)
              have n1_ := Aside0.mk (blk_below (g := gb233) (o := .cells #[.int .u32 t229, .int .u64 t230, .int .u32 t231] 25 (0, 0)) (by (with_reducible repeat (first | refine blk_drewN ?_ _ | refine blk_drew ?_ | refine blk_alloc ?_ _)); exact BK233.out) hb)
              have n2_ := Aside0.mk (below_step (by repeat (first | (with_reducible first | exact HB.out | apply below_alloc | apply pw_below_drewN | apply below_drew1 | refine below_set ?_ GE233.out) | exact HB.out)) hb)
              clear HO238
              clear BK233
              clear HB
              have HO238 := n0_
              have BK233 := n1_
              have HB := n2_
              clear n0_ n1_ n2_
              (try clear hb)
              (try clear hb2)
              (try clear hk)
              (try clear hi)
              refine hK.out _ _ trivial (fun hHeld => ?_)
              clear hK K
              refine norm_ (a' := ?_) ?_ ?_
              rotate_left
              ·show Act.put _ (some 64) _ = _
               simp only [Act.put, List.setIfInBounds_toArray, List.set_cons_zero, List.set_cons_succ, i64_w, i32_w]
               rfl
              refine pure_ (i := 20) (N := some 65) (v := ?_) (a' := ?_) zg2_21 rfl rfl (any_of HT_.out (by kernel_rfl)) (fun _ _ _ h => h) (Or.inl ⟨by rfl, ?_⟩) ?_ ?_
              rotate_left
              ·intro w'
               go_simp
               with_reducible rfl
              rotate_left
              ·simp only [Act.put, List.setIfInBounds_toArray, List.set_cons_zero, List.set_cons_succ, i64_w, i32_w]
               rfl
              refine pure_ (i := 21) (N := some 8) (v := ?_) (a' := ?_) zg2_22 rfl rfl (any_of HT_.out (by kernel_rfl)) (fun _ _ _ h => h) (Or.inl ⟨by rfl, ?_⟩) ?_ ?_
              rotate_left
              ·intro w'
               go_simp
               with_reducible rfl
              rotate_left
              ·simp only [Act.put, List.setIfInBounds_toArray, List.set_cons_zero, List.set_cons_succ, i64_w, i32_w]
               rfl
              refine done_ (done_of HT_.out (by kernel_rfl)) ?_
              try go_wp2_with (first | ((with_reducible refine gate_callee (f := 8) rfl ?_); refine goesL_ (some 69) rfl rfl Tryd.func8 (by kernel_rfl) rfl #[.string (⟨#[109, 97, 115, 116, 101, 114]⟩ : ByteArray), .int .i64 a1, .string ((x8_3.extract 0 480) ++ t239)] rfl (by (try simp only [List.map_toArray, List.map_cons, List.map_nil]); first | done | rfl | (simp only [List.length_drop, List.length_take]; rfl)) ?_; (with_reducible refine (block_Get.calls kj3 (⟨#[109, 97, 115, 116, 101, 114]⟩ : ByteArray) a1 ((x8_3.extract 0 480) ++ t239) t240 t241 t242 t243 t244 _ ?side1 A18.out).mono ?_); (case side1 => exact Go.Proofs.YtgbhjkkfleeodaaDoor.Sha.SL.below HG_.out (by repeat (first | (with_reducible first | exact HB.out | apply below_alloc | apply pw_below_drewN | apply below_drew1 | refine below_set ?_ GE233.out) | exact HB.out))); rintro e w33 ⟨rfl, hb⟩; refine ⟨_, rfl, ?_⟩; have n0_ := HO238; have n1_ := Aside0.mk (blk_below (g := gb233) (o := .cells #[.int .u32 t229, .int .u64 t230, .int .u32 t231] 25 (0, 0)) (by (with_reducible repeat (first | refine blk_drewN ?_ _ | refine blk_drew ?_ | refine blk_alloc ?_ _)); exact BK233.out) hb); have n2_ := Aside0.mk (below_step (by repeat (first | (with_reducible first | exact HB.out | apply below_alloc | apply pw_below_drewN | apply below_drew1 | refine below_set ?_ GE233.out) | exact HB.out)) hb); clear HO238; clear BK233; clear HB; have HO238 := n0_; have BK233 := n1_; have HB := n2_; clear n0_ n1_ n2_; (try clear hb); (try clear hb2); (try clear hk); (try clear hi)) | ((with_reducible refine gate_dst (N := 14) rfl ?_); refine box_event ?hg (N := 14) ?hd (cs := #[.int .u32 0, .int .u64 0, .int .u32 0]) (t := 25) ?hr ?_; (case hd => rfl); (case hg => rfl); (case hr => first | (go_simp; done) | (go_simp; rfl)); intro gb245 hg w34 hbox hb; have n0_ := HO238; have n1_ := Aside0.mk (blk_below (g := gb233) (o := .cells #[.int .u32 t229, .int .u64 t230, .int .u32 t231] 25 (0, 0)) (by (with_reducible repeat (first | refine blk_drewN ?_ _ | refine blk_drew ?_ | refine blk_alloc ?_ _)); exact BK233.out) hb); have n2_ := Aside0.mk (below_step (by repeat (first | (with_reducible first | exact HB.out | apply below_alloc | apply pw_below_drewN | apply below_drew1 | refine below_set ?_ GE233.out) | exact HB.out)) hb); have n3_ := Aside0.mk (hbox); have n4_ := Aside0.mk ((by rw [hg]; exact (below_size (by repeat (first | (with_reducible first | exact HB.out | apply below_alloc | apply pw_below_drewN | apply below_drew1 | refine below_set ?_ GE233.out) | exact HB.out))) : w.heap.size ≤ gb245)); have n5_ := Aside0.mk ((by rw [hg]; exact (below_size (by repeat (first | (with_reducible first | exact HB.out | apply below_alloc | apply pw_below_drewN | apply below_drew1 | refine below_set ?_ GE233.out) | exact HB.out))) : w.heap.size ≤ gb245)); have n6_ := Aside0.mk ((by rw [hg]; exact Nat.ne_of_lt (blk_lt (g := gb233) (o := .cells #[.int .u32 t229, .int .u64 t230, .int .u32 t231] 25 (0, 0)) (by (with_reducible repeat (first | refine blk_drewN ?_ _ | refine blk_drew ?_ | refine blk_alloc ?_ _)); exact BK233.out)) : gb233 ≠ gb245)); have n7_ := Aside0.mk ((by rw [hg]; exact Nat.ne_of_gt (blk_lt (g := gb233) (o := .cells #[.int .u32 t229, .int .u64 t230, .int .u32 t231] 25 (0, 0)) (by (with_reducible repeat (first | refine blk_drewN ?_ _ | refine blk_drew ?_ | refine blk_alloc ?_ _)); exact BK233.out)) : gb245 ≠ gb233)); clear HO238; clear BK233; clear HB; have HO238 := n0_; have BK233 := n1_; have HB := n2_; have BK245 := n3_; have GW245 := n4_; have GE245 := n5_; have NB233_245 := n6_; have NB245_233 := n7_; clear n0_ n1_ n2_ n3_ n4_ n5_ n6_ n7_; clear hb hbox hg; have hnb35 := NB245_233.out; have hnc35 := NB233_245.out; have hcz36_0 : w34.cell? ⟨gb245, 0, none⟩ = some (.int .u32 0) := (blk_cell BK245.out 0).trans rfl; have hcz36_1 : w34.cell? ⟨gb245, 1, none⟩ = some (.int .u64 0) := (blk_cell BK245.out 1).trans rfl; have hcz36_2 : w34.cell? ⟨gb245, 2, none⟩ = some (.int .u32 0) := (blk_cell BK245.out 2).trans rfl; have hfz36_0 := blk_frozen BK245.out 0; have hfz36_1 := blk_frozen BK245.out 1; have hfz36_2 := blk_frozen BK245.out 2) | ((with_reducible refine gate_callee (f := 13) rfl ?_); refine goesL_ (some 76) rfl rfl Tryd.func13 (by kernel_rfl) rfl #[.string (⟨#[109, 97, 115, 116, 101, 114]⟩ : ByteArray), .int .i64 a1, .string ((x8_3.extract 0 480) ++ t239)] rfl (by (try simp only [List.map_toArray, List.map_cons, List.map_nil]); first | done | rfl | (simp only [List.length_drop, List.length_take]; rfl)) ?_; (with_reducible refine (lodestoneref11_Get.calls kj3 (⟨#[109, 97, 115, 116, 101, 114]⟩ : ByteArray) a1 ((x8_3.extract 0 480) ++ t239) t240 t241 t242 t249 t250 _ A19.out).mono ?_); rintro e w37 ⟨rfl, hb⟩; refine ⟨_, rfl, ?_⟩; have n0_ := HO238; have n1_ := Aside0.mk (blk_below (g := gb233) (o := .cells #[.int .u32 t229, .int .u64 t230, .int .u32 t231] 25 (0, 0)) (by (with_reducible repeat (first | refine blk_drewN ?_ _ | refine blk_drew ?_ | refine blk_alloc ?_ _)); refine blk_far ?_ NB233_245.out _; (with_reducible repeat (first | refine blk_drewN ?_ _ | refine blk_drew ?_ | refine blk_alloc ?_ _)); refine blk_far ?_ NB233_245.out _; (with_reducible repeat (first | refine blk_drewN ?_ _ | refine blk_drew ?_ | refine blk_alloc ?_ _)); refine blk_far ?_ NB233_245.out _; (with_reducible repeat (first | refine blk_drewN ?_ _ | refine blk_drew ?_ | refine blk_alloc ?_ _)); exact BK233.out) hb); have n2_ := Aside0.mk (blk_below (g := gb245) (o := .cells #[.int .u32 t240, .int .u64 t241, .int .u32 t242] 25 (0, 0)) (by (with_reducible repeat (first | refine blk_drewN ?_ _ | refine blk_drew ?_ | refine blk_alloc ?_ _)); refine blk_put (cs := #[.int .u32 t240, .int .u64 t241, .int .u32 0]) ?_ 2 _ rfl; (with_reducible repeat (first | refine blk_drewN ?_ _ | refine blk_drew ?_ | refine blk_alloc ?_ _)); refine blk_put (cs := #[.int .u32 t240, .int .u64 0, .int .u32 0]) ?_ 1 _ rfl; (with_reducible repeat (first | refine blk_drewN ?_ _ | refine blk_drew ?_ | refine blk_alloc ?_ _)); refine blk_put (cs := #[.int .u32 0, .int .u64 0, .int .u32 0]) ?_ 0 _ rfl; (with_reducible repeat (first | refine blk_drewN ?_ _ | refine blk_drew ?_ | refine blk_alloc ?_ _)); exact BK245.out) hb); have n3_ := Aside0.mk (below_step (by repeat (first | (with_reducible first | exact HB.out | apply below_alloc | apply pw_below_drewN | apply below_drew1 | refine below_set ?_ GE233.out | refine below_set ?_ GE245.out) | exact HB.out)) hb); clear HO238; clear BK233; clear BK245; clear HB; have HO238 := n0_; have BK233 := n1_; have BK245 := n2_; have HB := n3_; clear n0_ n1_ n2_ n3_; (try clear hb); (try clear hb2); (try clear hk); (try clear hi)) | ((with_reducible refine gate_dst (N := 17) rfl ?_); refine box_event ?hg (N := 17) ?hd (cs := #[.int .u32 0, .int .u64 0, .int .u32 0]) (t := 25) ?hr ?_; (case hd => rfl); (case hg => rfl); (case hr => first | (go_simp; done) | (go_simp; rfl)); intro gb251 hg w38 hbox hb; have n0_ := HO238; have n1_ := Aside0.mk (blk_below (g := gb233) (o := .cells #[.int .u32 t229, .int .u64 t230, .int .u32 t231] 25 (0, 0)) (by (with_reducible repeat (first | refine blk_drewN ?_ _ | refine blk_drew ?_ | refine blk_alloc ?_ _)); exact BK233.out) hb); have n2_ := Aside0.mk (blk_below (g := gb245) (o := .cells #[.int .u32 t240, .int .u64 t241, .int .u32 t242] 25 (0, 0)) (by (with_reducible repeat (first | refine blk_drewN ?_ _ | refine blk_drew ?_ | refine blk_alloc ?_ _)); exact BK245.out) hb); have n3_ := Aside0.mk (below_step (by repeat (first | (with_reducible first | exact HB.out | apply below_alloc | apply pw_below_drewN | apply below_drew1 | refine below_set ?_ GE233.out | refine below_set ?_ GE245.out) | exact HB.out)) hb); have n4_ := Aside0.mk (hbox); have n5_ := Aside0.mk ((by rw [hg]; exact (below_size (by repeat (first | (with_reducible first | exact HB.out | apply below_alloc | apply pw_below_drewN | apply below_drew1 | refine below_set ?_ GE233.out | refine below_set ?_ GE245.out) | exact HB.out))) : w.heap.size ≤ gb251)); have n6_ := Aside0.mk ((by rw [hg]; exact (below_size (by repeat (first | (with_reducible first | exact HB.out | apply below_alloc | apply pw_below_drewN | apply below_drew1 | refine below_set ?_ GE233.out | refine below_set ?_ GE245.out) | exact HB.out))) : w.heap.size ≤ gb251)); have n7_ := Aside0.mk ((by rw [hg]; exact Nat.ne_of_lt (blk_lt (g := gb233) (o := .cells #[.int .u32 t229, .int .u64 t230, .int .u32 t231] 25 (0, 0)) (by (with_reducible repeat (first | refine blk_drewN ?_ _ | refine blk_drew ?_ | refine blk_alloc ?_ _)); exact BK233.out)) : gb233 ≠ gb251)); have n8_ := Aside0.mk ((by rw [hg]; exact Nat.ne_of_gt (blk_lt (g := gb233) (o := .cells #[.int .u32 t229, .int .u64 t230, .int .u32 t231] 25 (0, 0)) (by (with_reducible repeat (first | refine blk_drewN ?_ _ | refine blk_drew ?_ | refine blk_alloc ?_ _)); exact BK233.out)) : gb251 ≠ gb233)); have n9_ := Aside0.mk ((by rw [hg]; exact Nat.ne_of_lt (blk_lt (g := gb245) (o := .cells #[.int .u32 t240, .int .u64 t241, .int .u32 t242] 25 (0, 0)) (by (with_reducible repeat (first | refine blk_drewN ?_ _ | refine blk_drew ?_ | refine blk_alloc ?_ _)); exact BK245.out)) : gb245 ≠ gb251)); have n10_ := Aside0.mk ((by rw [hg]; exact Nat.ne_of_gt (blk_lt (g := gb245) (o := .cells #[.int .u32 t240, .int .u64 t241, .int .u32 t242] 25 (0, 0)) (by (with_reducible repeat (first | refine blk_drewN ?_ _ | refine blk_drew ?_ | refine blk_alloc ?_ _)); exact BK245.out)) : gb251 ≠ gb245)); clear HO238; clear BK233; clear BK245; clear HB; have HO238 := n0_; have BK233 := n1_; have BK245 := n2_; have HB := n3_; have BK251 := n4_; have GW251 := n5_; have GE251 := n6_; have NB233_251 := n7_; have NB251_233 := n8_; have NB245_251 := n9_; have NB251_245 := n10_; clear n0_ n1_ n2_ n3_ n4_ n5_ n6_ n7_ n8_ n9_ n10_; clear hb hbox hg; have hnb39 := NB251_233.out; have hnc39 := NB233_251.out; have hnb40 := NB251_245.out; have hnc40 := NB245_251.out; have hcz41_0 : w38.cell? ⟨gb251, 0, none⟩ = some (.int .u32 0) := (blk_cell BK251.out 0).trans rfl; have hcz41_1 : w38.cell? ⟨gb251, 1, none⟩ = some (.int .u64 0) := (blk_cell BK251.out 1).trans rfl; have hcz41_2 : w38.cell? ⟨gb251, 2, none⟩ = some (.int .u32 0) := (blk_cell BK251.out 2).trans rfl; have hfz41_0 := blk_frozen BK251.out 0; have hfz41_1 := blk_frozen BK251.out 1; have hfz41_2 := blk_frozen BK251.out 2) | ((with_reducible refine gate_callee (f := 7) rfl ?_); refine goesL_ (some 80) rfl rfl Tryd.func7 (by kernel_rfl) rfl #[] rfl (by (try simp only [List.map_toArray, List.map_cons, List.map_nil]); first | done | rfl | (simp only [List.length_drop, List.length_take]; rfl)) ?_; (with_reducible refine (lodestonelaw11_awake.calls kj3  true _ ?side1 A20.out).mono ?_); (case side1 => exact Go.Proofs.YtgbhjkkfleeodaaDoor.Sha.SL.below HG_.out (by repeat (first | (with_reducible first | exact HB.out | apply below_alloc | apply pw_below_drewN | apply below_drew1 | refine below_set ?_ GE233.out | refine below_set ?_ GE245.out | refine below_set ?_ GE251.out) | exact HB.out))); rintro e w42 ⟨rfl, hb⟩; refine ⟨_, rfl, ?_⟩; have n0_ := HO238; have n1_ := Aside0.mk (blk_below (g := gb233) (o := .cells #[.int .u32 t229, .int .u64 t230, .int .u32 t231] 25 (0, 0)) (by (with_reducible repeat (first | refine blk_drewN ?_ _ | refine blk_drew ?_ | refine blk_alloc ?_ _)); refine blk_far ?_ NB233_251.out _; (with_reducible repeat (first | refine blk_drewN ?_ _ | refine blk_drew ?_ | refine blk_alloc ?_ _)); refine blk_far ?_ NB233_251.out _; (with_reducible repeat (first | refine blk_drewN ?_ _ | refine blk_drew ?_ | refine blk_alloc ?_ _)); refine blk_far ?_ NB233_251.out _; (with_reducible repeat (first | refine blk_drewN ?_ _ | refine blk_drew ?_ | refine blk_alloc ?_ _)); exact BK233.out) hb); have n2_ := Aside0.mk (blk_below (g := gb245) (o := .cells #[.int .u32 t240, .int .u64 t241, .int .u32 t242] 25 (0, 0)) (by (with_reducible repeat (first | refine blk_drewN ?_ _ | refine blk_drew ?_ | refine blk_alloc ?_ _)); refine blk_far ?_ NB245_251.out _; (with_reducible repeat (first | refine blk_drewN ?_ _ | refine blk_drew ?_ | refine blk_alloc ?_ _)); refine blk_far ?_ NB245_251.out _; (with_reducible repeat (first | refine blk_drewN ?_ _ | refine blk_drew ?_ | refine blk_alloc ?_ _)); refine blk_far ?_ NB245_251.out _; (with_reducible repeat (first | refine blk_drewN ?_ _ | refine blk_drew ?_ | refine blk_alloc ?_ _)); exact BK245.out) hb); have n3_ := Aside0.mk (blk_below (g := gb251) (o := .cells #[.int .u32 t240, .int .u64 t241, .int .u32 t242] 25 (0, 0)) (by (with_reducible repeat (first | refine blk_drewN ?_ _ | refine blk_drew ?_ | refine blk_alloc ?_ _)); refine blk_put (cs := #[.int .u32 t240, .int .u64 t241, .int .u32 0]) ?_ 2 _ rfl; (with_reducible repeat (first | refine blk_drewN ?_ _ | refine blk_drew ?_ | refine blk_alloc ?_ _)); refine blk_put (cs := #[.int .u32 t240, .int .u64 0, .int .u32 0]) ?_ 1 _ rfl; (with_reducible repeat (first | refine blk_drewN ?_ _ | refine blk_drew ?_ | refine blk_alloc ?_ _)); refine blk_put (cs := #[.int .u32 0, .int .u64 0, .int .u32 0]) ?_ 0 _ rfl; (with_reducible repeat (first | refine blk_drewN ?_ _ | refine blk_drew ?_ | refine blk_alloc ?_ _)); exact BK251.out) hb); have n4_ := Aside0.mk (below_step (by repeat (first | (with_reducible first | exact HB.out | apply below_alloc | apply pw_below_drewN | apply below_drew1 | refine below_set ?_ GE233.out | refine below_set ?_ GE245.out | refine below_set ?_ GE251.out) | exact HB.out)) hb); clear HO238; clear BK233; clear BK245; clear BK251; clear HB; have HO238 := n0_; have BK233 := n1_; have BK245 := n2_; have BK251 := n3_; have HB := n4_; clear n0_ n1_ n2_ n3_ n4_; (try clear hb); (try clear hb2); (try clear hk); (try clear hi); have hcz43_0 : w42.cell? ⟨gb245, 0, none⟩ = some (.int .u32 t240) := (blk_cell BK245.out 0).trans rfl; have hcz43_1 : w42.cell? ⟨gb245, 1, none⟩ = some (.int .u64 t241) := (blk_cell BK245.out 1).trans rfl; have hcz43_2 : w42.cell? ⟨gb245, 2, none⟩ = some (.int .u32 t242) := (blk_cell BK245.out 2).trans rfl; have hfz43_0 := blk_frozen BK245.out 0; have hfz43_1 := blk_frozen BK245.out 1; have hfz43_2 := blk_frozen BK245.out 2; have hcz44_0 : w42.cell? ⟨gb251, 0, none⟩ = some (.int .u32 t240) := (blk_cell BK251.out 0).trans rfl; have hcz44_1 : w42.cell? ⟨gb251, 1, none⟩ = some (.int .u64 t241) := (blk_cell BK251.out 1).trans rfl; have hcz44_2 : w42.cell? ⟨gb251, 2, none⟩ = some (.int .u32 t242) := (blk_cell BK251.out 2).trans rfl; have hfz44_0 := blk_frozen BK251.out 0; have hfz44_1 := blk_frozen BK251.out 1; have hfz44_2 := blk_frozen BK251.out 2))
              go_ret
              exact ⟨by first | rfl | (simp [errW_none, errW_some] <;> rfl) | (simp [*, errW_none, errW_some] <;> rfl), by repeat (first | (with_reducible first | exact HB.out | apply below_alloc | apply pw_below_drewN | apply below_drew1 | refine below_set ?_ GE233.out | refine below_set ?_ GE245.out | refine below_set ?_ GE251.out) | exact HB.out)⟩
             ·rw [if_neg c23] at H
              have c23n : ¬ (t240 = t246 ∧ t241 = t247 ∧ t242 = t248) := by simpa only [Bool.and_eq_true, beq_iff_eq] using c23
              have c23m : (¬ t240 = t246 ∨ ¬ t241 = t247 ∨ ¬ t242 = t248) := by simpa only [Classical.not_and_iff_not_or_not] using c23n
              have c23b0 : (t240 == t246 && (t241 == t247 && (t242 == t248))) = false := by simpa using c23
              (try (have c23b1 : decide (t240 = t246 && (t241 == t247 && (t242 == t248))) = false := by simpa using c23))
              (try (have c23b2 : (t240 == t246 && (t241 == t247 && (t242 == t248))) = false := by simpa using c23))
              (try (have c23b3 : ¬ (t240 = t246 && (t241 == t247 && (t242 == t248))) := by simpa using c23))
              clear c23
              exact absurd (H.trans (congrArg some HR_.out)) (by simp)
            ·rw [if_neg c22] at H
             have c22b0 : (t244 == t250) = false := beq_eq_false_iff_ne.mpr c22
             have c22b1 : (t244 != t250) = true := bne_iff_ne.mpr c22
             exact absurd (H.trans (congrArg some HR_.out)) (by simp)
           ·replace c21 := Bool.eq_false_iff.mpr c21
            subst c21
            have H1 : (some false) = some r := by rw [if_neg (show ¬ (false = true) by decide)] at H; exact H
            clear H
            have H := H1
            clear H1
            exact absurd (H.trans (congrArg some HR_.out)) (by simp)
          ·rw [if_neg c17] at H
           exact absurd H (by simp)
         ·rw [if_neg c15] at H
          exact absurd H (by simp)
        ·rw [if_neg c13] at H
         exact absurd H (by simp)
       ·rw [if_neg c12] at H
        exact absurd H (by simp)
      ·rw [if_neg c11] at H
       exact absurd H (by simp)
     ·rw [if_neg c8] at H
      exact absurd H (by simp)
    ·rw [if_neg c7] at H
     exact absurd H (by simp)
   ·replace c6 := Bool.eq_false_iff.mpr c6
    subst c6
    have H1 : ((block_Get.f kj3 (⟨#[109, 97, 115, 116, 101, 114]⟩ : ByteArray) a1 x8_3).bind fun bt253 => ((lodestoneref11_Get.f kj3 (⟨#[109, 97, 115, 116, 101, 114]⟩ : ByteArray) a1 x8_3).bind fun bt259 => ((lodestonelaw11_awake.f kj3).bind fun t265 => (if t265 = true then (if bt253.2.2.2.2 = bt259.2.2.2.2 then (if (bt253.1 == bt259.1 && (bt253.2.1 == bt259.2.1 && (bt253.2.2.1 == bt259.2.2.1))) = true then (some (bt253.2.2.2.1.toList == bt259.2.2.2.1.toList)) else (some false)) else (some false)) else (some false))))) = some r := by rw [if_neg (show ¬ (false = true) by decide)] at H; exact H
    clear H
    have H := H1
    clear H1
    replace H := Option.bind_eq_some_iff.mp H
    obtain ⟨⟨t253, t254, t255, t256, t257⟩, A1040, H⟩ := H
    replace H : ((lodestoneref11_Get.f kj3 (⟨#[109, 97, 115, 116, 101, 114]⟩ : ByteArray) a1 x8_3).bind fun bt259 => ((lodestonelaw11_awake.f kj3).bind fun t265 => (if t265 = true then (if t257 = bt259.2.2.2.2 then (if (t253 == bt259.1 && (t254 == bt259.2.1 && (t255 == bt259.2.2.1))) = true then (some (t256.toList == bt259.2.2.2.1.toList)) else (some false)) else (some false)) else (some false)))) = some r := H
    have A104 := Aside0.mk A1040
    clear A1040
    replace H := Option.bind_eq_some_iff.mp H
    obtain ⟨⟨t259, t260, t261, t262, t263⟩, A1050, H⟩ := H
    replace H : ((lodestonelaw11_awake.f kj3).bind fun t265 => (if t265 = true then (if t257 = t263 then (if (t253 == t259 && (t254 == t260 && (t255 == t261))) = true then (some (t256.toList == t262.toList)) else (some false)) else (some false)) else (some false))) = some r := H
    have A105 := Aside0.mk A1050
    clear A1050
    replace H := Option.bind_eq_some_iff.mp H
    obtain ⟨t265, A1060, H⟩ := H
    replace H : (if t265 = true then (if t257 = t263 then (if (t253 == t259 && (t254 == t260 && (t255 == t261))) = true then (some (t256.toList == t262.toList)) else (some false)) else (some false)) else (some false)) = some r := H
    have A106 := Aside0.mk A1060
    clear A1060
    by_cases c107 : t265 = true
    ·subst c107
     have H1 : (if t257 = t263 then (if (t253 == t259 && (t254 == t260 && (t255 == t261))) = true then (some (t256.toList == t262.toList)) else (some false)) else (some false)) = some r := by rw [if_pos rfl] at H; exact H
     clear H
     have H := H1
     clear H1
     by_cases c108 : t257 = t263
     ·rw [if_pos c108] at H
      have c108b0 : (t257 == t263) = true := beq_iff_eq.mpr c108
      have c108b1 : (t257 != t263) = false := bne_eq_false_iff_eq.mpr c108
      clear c108
      by_cases c109 : (t253 == t259 && (t254 == t260 && (t255 == t261))) = true
      ·rw [if_pos c109] at H
       have c109s := c109
       simp only [Bool.and_eq_true, beq_iff_eq] at c109s
       obtain ⟨c109s0, c109s1, c109s2⟩ := c109s
       subst c109s0
       subst c109s1
       subst c109s2
       obtain rfl := Option.some.inj H
       go_wp2_with (first | ((with_reducible refine gate_callee (f := 8) rfl ?_); refine goesL_ (some 69) rfl rfl Tryd.func8 (by kernel_rfl) rfl #[.string (⟨#[109, 97, 115, 116, 101, 114]⟩ : ByteArray), .int .i64 a1, .string x8_3] rfl (by (try simp only [List.map_toArray, List.map_cons, List.map_nil]); first | done | rfl | (simp only [List.length_drop, List.length_take]; rfl)) ?_; (with_reducible refine (block_Get.calls kj3 (⟨#[109, 97, 115, 116, 101, 114]⟩ : ByteArray) a1 x8_3 t253 t254 t255 t256 t257 _ ?side1 A104.out).mono ?_); (case side1 => exact Go.Proofs.YtgbhjkkfleeodaaDoor.Sha.SL.below HG_.out (by repeat (first | (with_reducible first | exact HB.out | apply below_alloc | apply pw_below_drewN | apply below_drew1) | exact HB.out))); rintro e w110 ⟨rfl, hb⟩; refine ⟨_, rfl, ?_⟩; have n0_ := Aside0.mk (below_step (by repeat (first | (with_reducible first | exact HB.out | apply below_alloc | apply pw_below_drewN | apply below_drew1) | exact HB.out)) hb); clear HB; have HB := n0_; clear n0_; (try clear hb); (try clear hb2); (try clear hk); (try clear hi)) | ((with_reducible refine gate_dst (N := 14) rfl ?_); refine box_event ?hg (N := 14) ?hd (cs := #[.int .u32 0, .int .u64 0, .int .u32 0]) (t := 25) ?hr ?_; (case hd => rfl); (case hg => rfl); (case hr => first | (go_simp; done) | (go_simp; rfl)); intro gb258 hg w111 hbox hb; have n0_ := Aside0.mk (below_step (by repeat (first | (with_reducible first | exact HB.out | apply below_alloc | apply pw_below_drewN | apply below_drew1) | exact HB.out)) hb); have n1_ := Aside0.mk (hbox); have n2_ := Aside0.mk ((by rw [hg]; exact (below_size (by repeat (first | (with_reducible first | exact HB.out | apply below_alloc | apply pw_below_drewN | apply below_drew1) | exact HB.out))) : w.heap.size ≤ gb258)); have n3_ := Aside0.mk ((by rw [hg]; exact (below_size (by repeat (first | (with_reducible first | exact HB.out | apply below_alloc | apply pw_below_drewN | apply below_drew1) | exact HB.out))) : w.heap.size ≤ gb258)); clear HB; have HB := n0_; have BK258 := n1_; have GW258 := n2_; have GE258 := n3_; clear n0_ n1_ n2_ n3_; clear hb hbox hg; have hcz112_0 : w111.cell? ⟨gb258, 0, none⟩ = some (.int .u32 0) := (blk_cell BK258.out 0).trans rfl; have hcz112_1 : w111.cell? ⟨gb258, 1, none⟩ = some (.int .u64 0) := (blk_cell BK258.out 1).trans rfl; have hcz112_2 : w111.cell? ⟨gb258, 2, none⟩ = some (.int .u32 0) := (blk_cell BK258.out 2).trans rfl; have hfz112_0 := blk_frozen BK258.out 0; have hfz112_1 := blk_frozen BK258.out 1; have hfz112_2 := blk_frozen BK258.out 2) | ((with_reducible refine gate_callee (f := 13) rfl ?_); refine goesL_ (some 76) rfl rfl Tryd.func13 (by kernel_rfl) rfl #[.string (⟨#[109, 97, 115, 116, 101, 114]⟩ : ByteArray), .int .i64 a1, .string x8_3] rfl (by (try simp only [List.map_toArray, List.map_cons, List.map_nil]); first | done | rfl | (simp only [List.length_drop, List.length_take]; rfl)) ?_; (with_reducible refine (lodestoneref11_Get.calls kj3 (⟨#[109, 97, 115, 116, 101, 114]⟩ : ByteArray) a1 x8_3 t253 t254 t255 t262 t263 _ A105.out).mono ?_); rintro e w113 ⟨rfl, hb⟩; refine ⟨_, rfl, ?_⟩; have n0_ := Aside0.mk (blk_below (g := gb258) (o := .cells #[.int .u32 t253, .int .u64 t254, .int .u32 t255] 25 (0, 0)) (by (with_reducible repeat (first | refine blk_drewN ?_ _ | refine blk_drew ?_ | refine blk_alloc ?_ _)); refine blk_put (cs := #[.int .u32 t253, .int .u64 t254, .int .u32 0]) ?_ 2 _ rfl; (with_reducible repeat (first | refine blk_drewN ?_ _ | refine blk_drew ?_ | refine blk_alloc ?_ _)); refine blk_put (cs := #[.int .u32 t253, .int .u64 0, .int .u32 0]) ?_ 1 _ rfl; (with_reducible repeat (first | refine blk_drewN ?_ _ | refine blk_drew ?_ | refine blk_alloc ?_ _)); refine blk_put (cs := #[.int .u32 0, .int .u64 0, .int .u32 0]) ?_ 0 _ rfl; (with_reducible repeat (first | refine blk_drewN ?_ _ | refine blk_drew ?_ | refine blk_alloc ?_ _)); exact BK258.out) hb); have n1_ := Aside0.mk (below_step (by repeat (first | (with_reducible first | exact HB.out | apply below_alloc | apply pw_below_drewN | apply below_drew1 | refine below_set ?_ GE258.out) | exact HB.out)) hb); clear BK258; clear HB; have BK258 := n0_; have HB := n1_; clear n0_ n1_; (try clear hb); (try clear hb2); (try clear hk); (try clear hi)) | ((with_reducible refine gate_dst (N := 17) rfl ?_); refine box_event ?hg (N := 17) ?hd (cs := #[.int .u32 0, .int .u64 0, .int .u32 0]) (t := 25) ?hr ?_; (case hd => rfl); (case hg => rfl); (case hr => first | (go_simp; done) | (go_simp; rfl)); intro gb264 hg w114 hbox hb; have n0_ := Aside0.mk (blk_below (g := gb258) (o := .cells #[.int .u32 t253, .int .u64 t254, .int .u32 t255] 25 (0, 0)) (by (with_reducible repeat (first | refine blk_drewN ?_ _ | refine blk_drew ?_ | refine blk_alloc ?_ _)); exact BK258.out) hb); have n1_ := Aside0.mk (below_step (by repeat (first | (with_reducible first | exact HB.out | apply below_alloc | apply pw_below_drewN | apply below_drew1 | refine below_set ?_ GE258.out) | exact HB.out)) hb); have n2_ := Aside0.mk (hbox); have n3_ := Aside0.mk ((by rw [hg]; exact (below_size (by repeat (first | (with_reducible first | exact HB.out | apply below_alloc | apply pw_below_drewN | apply below_drew1 | refine below_set ?_ GE258.out) | exact HB.out))) : w.heap.size ≤ gb264)); have n4_ := Aside0.mk ((by rw [hg]; exact (below_size (by repeat (first | (with_reducible first | exact HB.out | apply below_alloc | apply pw_below_drewN | apply below_drew1 | refine below_set ?_ GE258.out) | exact HB.out))) : w.heap.size ≤ gb264)); have n5_ := Aside0.mk ((by rw [hg]; exact Nat.ne_of_lt (blk_lt (g := gb258) (o := .cells #[.int .u32 t253, .int .u64 t254, .int .u32 t255] 25 (0, 0)) (by (with_reducible repeat (first | refine blk_drewN ?_ _ | refine blk_drew ?_ | refine blk_alloc ?_ _)); exact BK258.out)) : gb258 ≠ gb264)); have n6_ := Aside0.mk ((by rw [hg]; exact Nat.ne_of_gt (blk_lt (g := gb258) (o := .cells #[.int .u32 t253, .int .u64 t254, .int .u32 t255] 25 (0, 0)) (by (with_reducible repeat (first | refine blk_drewN ?_ _ | refine blk_drew ?_ | refine blk_alloc ?_ _)); exact BK258.out)) : gb264 ≠ gb258)); clear BK258; clear HB; have BK258 := n0_; have HB := n1_; have BK264 := n2_; have GW264 := n3_; have GE264 := n4_; have NB258_264 := n5_; have NB264_258 := n6_; clear n0_ n1_ n2_ n3_ n4_ n5_ n6_; clear hb hbox hg; have hnb115 := NB264_258.out; have hnc115 := NB258_264.out; have hcz116_0 : w114.cell? ⟨gb264, 0, none⟩ = some (.int .u32 0) := (blk_cell BK264.out 0).trans rfl; have hcz116_1 : w114.cell? ⟨gb264, 1, none⟩ = some (.int .u64 0) := (blk_cell BK264.out 1).trans rfl; have hcz116_2 : w114.cell? ⟨gb264, 2, none⟩ = some (.int .u32 0) := (blk_cell BK264.out 2).trans rfl; have hfz116_0 := blk_frozen BK264.out 0; have hfz116_1 := blk_frozen BK264.out 1; have hfz116_2 := blk_frozen BK264.out 2) | ((with_reducible refine gate_callee (f := 7) rfl ?_); refine goesL_ (some 80) rfl rfl Tryd.func7 (by kernel_rfl) rfl #[] rfl (by (try simp only [List.map_toArray, List.map_cons, List.map_nil]); first | done | rfl | (simp only [List.length_drop, List.length_take]; rfl)) ?_; (with_reducible refine (lodestonelaw11_awake.calls kj3  true _ ?side1 A106.out).mono ?_); (case side1 => exact Go.Proofs.YtgbhjkkfleeodaaDoor.Sha.SL.below HG_.out (by repeat (first | (with_reducible first | exact HB.out | apply below_alloc | apply pw_below_drewN | apply below_drew1 | refine below_set ?_ GE258.out | refine below_set ?_ GE264.out) | exact HB.out))); rintro e w117 ⟨rfl, hb⟩; refine ⟨_, rfl, ?_⟩; have n0_ := Aside0.mk (blk_below (g := gb258) (o := .cells #[.int .u32 t253, .int .u64 t254, .int .u32 t255] 25 (0, 0)) (by (with_reducible repeat (first | refine blk_drewN ?_ _ | refine blk_drew ?_ | refine blk_alloc ?_ _)); refine blk_far ?_ NB258_264.out _; (with_reducible repeat (first | refine blk_drewN ?_ _ | refine blk_drew ?_ | refine blk_alloc ?_ _)); refine blk_far ?_ NB258_264.out _; (with_reducible repeat (first | refine blk_drewN ?_ _ | refine blk_drew ?_ | refine blk_alloc ?_ _)); refine blk_far ?_ NB258_264.out _; (with_reducible repeat (first | refine blk_drewN ?_ _ | refine blk_drew ?_ | refine blk_alloc ?_ _)); exact BK258.out) hb); have n1_ := Aside0.mk (blk_below (g := gb264) (o := .cells #[.int .u32 t253, .int .u64 t254, .int .u32 t255] 25 (0, 0)) (by (with_reducible repeat (first | refine blk_drewN ?_ _ | refine blk_drew ?_ | refine blk_alloc ?_ _)); refine blk_put (cs := #[.int .u32 t253, .int .u64 t254, .int .u32 0]) ?_ 2 _ rfl; (with_reducible repeat (first | refine blk_drewN ?_ _ | refine blk_drew ?_ | refine blk_alloc ?_ _)); refine blk_put (cs := #[.int .u32 t253, .int .u64 0, .int .u32 0]) ?_ 1 _ rfl; (with_reducible repeat (first | refine blk_drewN ?_ _ | refine blk_drew ?_ | refine blk_alloc ?_ _)); refine blk_put (cs := #[.int .u32 0, .int .u64 0, .int .u32 0]) ?_ 0 _ rfl; (with_reducible repeat (first | refine blk_drewN ?_ _ | refine blk_drew ?_ | refine blk_alloc ?_ _)); exact BK264.out) hb); have n2_ := Aside0.mk (below_step (by repeat (first | (with_reducible first | exact HB.out | apply below_alloc | apply pw_below_drewN | apply below_drew1 | refine below_set ?_ GE258.out | refine below_set ?_ GE264.out) | exact HB.out)) hb); clear BK258; clear BK264; clear HB; have BK258 := n0_; have BK264 := n1_; have HB := n2_; clear n0_ n1_ n2_; (try clear hb); (try clear hb2); (try clear hk); (try clear hi); have hcz118_0 : w117.cell? ⟨gb258, 0, none⟩ = some (.int .u32 t253) := (blk_cell BK258.out 0).trans rfl; have hcz118_1 : w117.cell? ⟨gb258, 1, none⟩ = some (.int .u64 t254) := (blk_cell BK258.out 1).trans rfl; have hcz118_2 : w117.cell? ⟨gb258, 2, none⟩ = some (.int .u32 t255) := (blk_cell BK258.out 2).trans rfl; have hfz118_0 := blk_frozen BK258.out 0; have hfz118_1 := blk_frozen BK258.out 1; have hfz118_2 := blk_frozen BK258.out 2; have hcz119_0 : w117.cell? ⟨gb264, 0, none⟩ = some (.int .u32 t253) := (blk_cell BK264.out 0).trans rfl; have hcz119_1 : w117.cell? ⟨gb264, 1, none⟩ = some (.int .u64 t254) := (blk_cell BK264.out 1).trans rfl; have hcz119_2 : w117.cell? ⟨gb264, 2, none⟩ = some (.int .u32 t255) := (blk_cell BK264.out 2).trans rfl; have hfz119_0 := blk_frozen BK264.out 0; have hfz119_1 := blk_frozen BK264.out 1; have hfz119_2 := blk_frozen BK264.out 2))
       go_ret
       exact ⟨by first | rfl | (simp [errW_none, errW_some] <;> rfl) | (simp [*, errW_none, errW_some] <;> rfl), by repeat (first | (with_reducible first | exact HB.out | apply below_alloc | apply pw_below_drewN | apply below_drew1 | refine below_set ?_ GE258.out | refine below_set ?_ GE264.out) | exact HB.out)⟩
      ·rw [if_neg c109] at H
       have c109n : ¬ (t253 = t259 ∧ t254 = t260 ∧ t255 = t261) := by simpa only [Bool.and_eq_true, beq_iff_eq] using c109
       have c109m : (¬ t253 = t259 ∨ ¬ t254 = t260 ∨ ¬ t255 = t261) := by simpa only [Classical.not_and_iff_not_or_not] using c109n
       have c109b0 : (t253 == t259 && (t254 == t260 && (t255 == t261))) = false := by simpa using c109
       (try (have c109b1 : decide (t253 = t259 && (t254 == t260 && (t255 == t261))) = false := by simpa using c109))
       (try (have c109b2 : (t253 == t259 && (t254 == t260 && (t255 == t261))) = false := by simpa using c109))
       (try (have c109b3 : ¬ (t253 = t259 && (t254 == t260 && (t255 == t261))) := by simpa using c109))
       clear c109
       exact absurd (H.trans (congrArg some HR_.out)) (by simp)
     ·rw [if_neg c108] at H
      have c108b0 : (t257 == t263) = false := beq_eq_false_iff_ne.mpr c108
      have c108b1 : (t257 != t263) = true := bne_iff_ne.mpr c108
      exact absurd (H.trans (congrArg some HR_.out)) (by simp)
    ·replace c107 := Bool.eq_false_iff.mpr c107
     subst c107
     have H1 : (some false) = some r := by rw [if_neg (show ¬ (false = true) by decide)] at H; exact H
     clear H
     have H := H1
     clear H1
     exact absurd (H.trans (congrArg some HR_.out)) (by simp)
end Go.Proofs.YtgbhjkkfleeodaaDoor.PBlockPuts
