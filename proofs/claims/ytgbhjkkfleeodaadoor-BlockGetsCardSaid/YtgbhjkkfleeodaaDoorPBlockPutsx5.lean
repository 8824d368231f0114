import Derived.Test.YtgbhjkkfleeodaaDoorPBlockPutsx0
import Derived.Test.YtgbhjkkfleeodaaDoorPBlockPutsx2
import Derived.Test.YtgbhjkkfleeodaaDoorPBlockPutsx4
import Derived.Test.YtgbhjkkfleeodaaDoorXB
namespace Go.Proofs.YtgbhjkkfleeodaaDoor.PBlockPuts
open Go.RowKit Go.Proofs.YtgbhjkkfleeodaaDoorW.PrintWords Go.Proofs.YtgbhjkkfleeodaaDoorW.PrintLast Go.Proofs.YtgbhjkkfleeodaaDoorW.PrintMore
open Go.Proofs.YtgbhjkkfleeodaaDoorW.PrintWords renaming blk_drewN → zN, blk_drew → zD, blk_alloc → zA, blk_cell → zC, blk_frozen → zF, below_set → zS, below_alloc → zL, below_drew1 → zW, pw_below_drewN → zP, blk_below → zB, keep_drewN → zK
open Go.Proofs.YtgbhjkkfleeodaaDoorW.PrintWords.Aside0 renaming mk → zM
open List renaming setIfInBounds_toArray → zT, set_cons_zero → zZ, set_cons_succ → zU, length_drop → zV, length_take → zX, map_toArray → zY
attribute [local go_sem] max2_int min2_int max_two min_two max_three min_three max_four min_four
set_option linter.unusedVariables false
set_option linter.unusedSimpArgs false
abbrev zb5_0 : Array Bool := #[false, false, false, false, false, false, false, false, false, false, false, false, false, false, false]
abbrev zb5_1 : Array Bool := #[true, false, false, false, false, false, false, false, false, false, false, false, false, false, false]
abbrev zb5_2 : Array Bool := #[true, true, false, false, false, false, false, false, false, false, false, false, false, false, false]
abbrev zb5_3 : Array Bool := #[true, true, false, false, true, false, false, false, false, false, false, false, false, false, false]
abbrev zb5_4 : Array Bool := #[true, true, false, false, true, false, false, true, false, false, false, false, false, false, false]
abbrev zb5_5 : Array Bool := #[true, true, false, false, true, false, false, true, true, false, false, false, false, false, false]
abbrev zb5_6 : Array Bool := #[true, true, true, false, true, false, false, true, true, false, false, false, false, false, false]
abbrev zb5_7 : Array Bool := #[true, true, true, false, true, true, false, true, true, false, false, false, false, false, false]
abbrev zb5_8 : Array Bool := #[true, true, true, true, true, true, false, true, true, false, false, false, false, false, false]
abbrev zb5_9 : Array Bool := #[true, true, true, true, true, true, true, true, true, false, false, false, false, false, false]
abbrev zb5_10 : Array Bool := #[true, true, true, true, true, true, true, true, true, true, false, false, false, false, false]
abbrev zb5_11 : Array Bool := #[true, true, true, true, true, true, true, true, true, true, true, false, false, false, false]
abbrev zb5_12 : Array Bool := #[true, true, true, true, true, true, true, true, true, true, true, true, false, false, false]
abbrev zb5_13 : Array Bool := #[true, true, true, true, true, true, true, true, true, true, true, true, true, false, false]
abbrev zb5_14 : Array Bool := #[true, true, true, true, true, true, true, true, true, true, true, true, true, true, false]
abbrev zb5_15 : Array Bool := #[true, true, true, true, true, true, true, true, true, true, true, true, true, true, true]
abbrev zb5_16 : Array Bool := #[false, false, false, false, false, false, false, false, false]
abbrev zb5_17 : Array Bool := #[true, false, false, false, false, false, false, false, false]
abbrev zb5_18 : Array Bool := #[true, false, false, false, true, false, false, false, false]
abbrev zb5_19 : Array Bool := #[true, true, false, false, true, false, false, false, false]
abbrev zb5_20 : Array Bool := #[true, true, true, false, true, false, false, false, false]
def block_Get.f (k : Nat) (a0 : ByteArray) (a1 : Int) (a2 : ByteArray) : Option (Int × Int × Int × ByteArray × Int) := (block_Head.f a2).bind fun bt164 => (if bt164.2.2.2 = 0 then ((keys_Of.f k a0 bt164.1).bind fun bt169 => ((block_nonce.f bt164.1 bt164.2.1 bt164.2.2.1).bind fun t171 => (if 16 ≤ (a2.size : Int) then ((seal_Get.f k bt169.1 bt169.2 a1 t171 (a2.extract 16 a2.size)).bind fun bt172 => (if bt172.2 = 0 then (if 0 < (bt172.1.size : Int) then (if 1 < (bt172.1.size : Int) then (if (Go.bits .or .i64 (wrap64 ((wrap64 (bt bt172.1 0)) * 256)) (wrap64 (bt bt172.1 1))) > 462 then (some (0, 0, 0, (⟨#[]⟩ : ByteArray), 3)) else (if 0 ≤ (wrap64 (2 + (Go.bits .or .i64 (wrap64 ((wrap64 (bt bt172.1 0)) * 256)) (wrap64 (bt bt172.1 1))))) then (if (wrap64 (2 + (Go.bits .or .i64 (wrap64 ((wrap64 (bt bt172.1 0)) * 256)) (wrap64 (bt bt172.1 1))))) ≤ (bt172.1.size : Int) then ((strings_Trim.f (bt172.1.extract ((wrap64 (2 + (Go.bits .or .i64 (wrap64 ((wrap64 (bt bt172.1 0)) * 256)) (wrap64 (bt bt172.1 1))))) : Int).toNat bt172.1.size) (⟨#[0]⟩ : ByteArray)).bind fun t174 => (if t174.toList = ([] : List UInt8) then (if 2 ≤ (wrap64 (2 + (Go.bits .or .i64 (wrap64 ((wrap64 (bt bt172.1 0)) * 256)) (wrap64 (bt bt172.1 1))))) then (some (bt164.1, bt164.2.1, bt164.2.2.1, bt172.1.extract 2 ((wrap64 (2 + (Go.bits .or .i64 (wrap64 ((wrap64 (bt bt172.1 0)) * 256)) (wrap64 (bt bt172.1 1))))) : Int).toNat, 0)) else (none)) else (some (0, 0, 0, (⟨#[]⟩ : ByteArray), 3)))) else (none)) else (none))) else (none)) else (none)) else (some (0, 0, 0, (⟨#[]⟩ : ByteArray), bt172.2)))) else (none)))) else (some (0, 0, 0, (⟨#[]⟩ : ByteArray), bt164.2.2.2)))
theorem block_Get.mono : ∀ a0 a1 a2 k, LeO (block_Get.f k a0 a1 a2) (block_Get.f (k + 1) a0 a1 a2) := by
 intro a0 a1 a2 k
 unfold block_Get.f
 repeat' first
   | (with_reducible exact keys_Of.mono _ _ _)
   | (with_reducible exact seal_Get.mono _ _ _ _ _ _)
   | (with_reducible exact LeO.refl _)
   | (with_reducible exact LeO.none _)
   | (with_reducible refine LeO.ite ?_ ?_)
   | (with_reducible refine LeO.bind ?_ (fun _ => ?_))
   | exact keys_Of.mono _ _ _
   | exact seal_Get.mono _ _ _ _ _ _
   | exact LeO.none _
   | refine LeO.ite ?_ ?_
   | refine LeO.bind ?_ (fun _ => ?_)
def block_Get.T4 : Bool × List (List Nat × List Nat) := (true, [([], []), ([], []), ([1], [1]), ([0, 2], [0, 2]), ([], []), ([], []), ([5, 3], [5]), ([], []), ([7], [7]), ([3, 4, 6, 8, 6], [3, 4, 6, 8]), ([9], [9]), ([10], [10]), ([10], [10]), ([11, 9, 0, 1, 2, 3, 4, 5, 6, 7, 8, 9, 10, 11], [11]), ([12, 13, 0, 1, 2, 3, 4, 5, 6, 7, 8, 9, 10, 11, 12, 13], [12])])
def block_Get.B4 : List Nat := [0, 0, 2, 7, 0, 0, 47, 0, 128, 511, 1023, 2047, 2047, 4095, 16383]
theorem block_Get.tab4 : rtab .any (opsOf Tryd.f8 4) = block_Get.T4 := by kernel_rfl
theorem block_Get.bits4 : waitsOk block_Get.T4.2 block_Get.B4 = true := by kernel_rfl
def block_Get.T7 : Bool × List (List Nat × List Nat) := (true, [([], []), ([0], [0]), ([1], [1]), ([2], [2]), ([], []), ([4], [4]), ([5], [5]), ([3, 6], [3, 6]), ([7, 0, 1, 2, 3, 4, 5, 6, 7], [7])])
def block_Get.B7 : List Nat := [0, 1, 3, 7, 0, 16, 48, 127, 255]
theorem block_Get.tab7 : rtab .any (opsOf Tryd.f8 7) = block_Get.T7 := by kernel_rfl
theorem block_Get.bits7 : waitsOk block_Get.T7.2 block_Get.B7 = true := by kernel_rfl
def block_Get.T10 : Bool × List (List Nat × List Nat) := (true, [([], []), ([], []), ([], []), ([2], [2]), ([1, 3], [1, 3]), ([0, 0], [0]), ([4, 5, 0, 1, 2, 3, 4, 5], [4]), ([6, 0, 1, 2, 3, 4, 5, 6], [])])
def block_Get.B10 : List Nat := [0, 0, 0, 4, 14, 1, 63, 127]
theorem block_Get.tab10 : rtab .any (opsOf Tryd.f8 10) = block_Get.T10 := by kernel_rfl
theorem block_Get.bits10 : waitsOk block_Get.T10.2 block_Get.B10 = true := by kernel_rfl
set_option maxHeartbeats 8000000 in
set_option maxRecDepth 100000 in
theorem block_Get.calls (k : Nat) (a0 : ByteArray) (a1 : Int) (a2 : ByteArray) (r1 : Int) (r2 : Int) (r3 : Int) (r4 : ByteArray) (r5 : Int) (w : World) (hG_ : Go.Proofs.YtgbhjkkfleeodaaDoor.Sha.SL w) (h : block_Get.f k a0 a1 a2 = some (r1, r2, r3, r4, r5)) :
  Calls Tryd.prog 8 #[.string a0, .int .i64 a1, .string a2] w fun e w' => e = .returned (.tuple #[.agg #[.int .u32 r1, .int .u64 r2, .int .u32 r3], .string r4, .int .i64 r5]) ∧ Below w.heap.size w w' := by
 have HG_ := zM hG_
 clear hG_
 have hu25 := Tryd.underlying25
 have HB := zM (Below.refl w.heap.size w)
 have H : ((block_Head.f a2).bind fun bt164 => (if bt164.2.2.2 = 0 then ((keys_Of.f k a0 bt164.1).bind fun bt169 => ((block_nonce.f bt164.1 bt164.2.1 bt164.2.2.1).bind fun t171 => (if 16 ≤ (a2.size : Int) then ((seal_Get.f k bt169.1 bt169.2 a1 t171 (a2.extract 16 a2.size)).bind fun bt172 => (if bt172.2 = 0 then (if 0 < (bt172.1.size : Int) then (if 1 < (bt172.1.size : Int) then (if (Go.bits .or .i64 (wrap64 ((wrap64 (bt bt172.1 0)) * 256)) (wrap64 (bt bt172.1 1))) > 462 then (some (0, 0, 0, (⟨#[]⟩ : ByteArray), 3)) else (if 0 ≤ (wrap64 (2 + (Go.bits .or .i64 (wrap64 ((wrap64 (bt bt172.1 0)) * 256)) (wrap64 (bt bt172.1 1))))) then (if (wrap64 (2 + (Go.bits .or .i64 (wrap64 ((wrap64 (bt bt172.1 0)) * 256)) (wrap64 (bt bt172.1 1))))) ≤ (bt172.1.size : Int) then ((strings_Trim.f (bt172.1.extract ((wrap64 (2 + (Go.bits .or .i64 (wrap64 ((wrap64 (bt bt172.1 0)) * 256)) (wrap64 (bt bt172.1 1))))) : Int).toNat bt172.1.size) (⟨#[0]⟩ : ByteArray)).bind fun t174 => (if t174.toList = ([] : List UInt8) then (if 2 ≤ (wrap64 (2 + (Go.bits .or .i64 (wrap64 ((wrap64 (bt bt172.1 0)) * 256)) (wrap64 (bt bt172.1 1))))) then (some (bt164.1, bt164.2.1, bt164.2.2.1, bt172.1.extract 2 ((wrap64 (2 + (Go.bits .or .i64 (wrap64 ((wrap64 (bt bt172.1 0)) * 256)) (wrap64 (bt bt172.1 1))))) : Int).toNat, 0)) else (none)) else (some (0, 0, 0, (⟨#[]⟩ : ByteArray), 3)))) else (none)) else (none))) else (none)) else (none)) else (some (0, 0, 0, (⟨#[]⟩ : ByteArray), bt172.2)))) else (none)))) else (some (0, 0, 0, (⟨#[]⟩ : ByteArray), bt164.2.2.2)))) = some (r1, r2, r3, r4, r5) := h
 clear h
 replace H := Option.bind_eq_some_iff.mp H
 obtain ⟨⟨t164, t165, t166, t167⟩, A40, H⟩ := H
 replace H : (if t167 = 0 then ((keys_Of.f k a0 t164).bind fun bt169 => ((block_nonce.f t164 t165 t166).bind fun t171 => (if 16 ≤ (a2.size : Int) then ((seal_Get.f k bt169.1 bt169.2 a1 t171 (a2.extract 16 a2.size)).bind fun bt172 => (if bt172.2 = 0 then (if 0 < (bt172.1.size : Int) then (if 1 < (bt172.1.size : Int) then (if (Go.bits .or .i64 (wrap64 ((wrap64 (bt bt172.1 0)) * 256)) (wrap64 (bt bt172.1 1))) > 462 then (some (0, 0, 0, (⟨#[]⟩ : ByteArray), 3)) else (if 0 ≤ (wrap64 (2 + (Go.bits .or .i64 (wrap64 ((wrap64 (bt bt172.1 0)) * 256)) (wrap64 (bt bt172.1 1))))) then (if (wrap64 (2 + (Go.bits .or .i64 (wrap64 ((wrap64 (bt bt172.1 0)) * 256)) (wrap64 (bt bt172.1 1))))) ≤ (bt172.1.size : Int) then ((strings_Trim.f (bt172.1.extract ((wrap64 (2 + (Go.bits .or .i64 (wrap64 ((wrap64 (bt bt172.1 0)) * 256)) (wrap64 (bt bt172.1 1))))) : Int).toNat bt172.1.size) (⟨#[0]⟩ : ByteArray)).bind fun t174 => (if t174.toList = ([] : List UInt8) then (if 2 ≤ (wrap64 (2 + (Go.bits .or .i64 (wrap64 ((wrap64 (bt bt172.1 0)) * 256)) (wrap64 (bt bt172.1 1))))) then (some (t164, t165, t166, bt172.1.extract 2 ((wrap64 (2 + (Go.bits .or .i64 (wrap64 ((wrap64 (bt bt172.1 0)) * 256)) (wrap64 (bt bt172.1 1))))) : Int).toNat, 0)) else (none)) else (some (0, 0, 0, (⟨#[]⟩ : ByteArray), 3)))) else (none)) else (none))) else (none)) else (none)) else (some (0, 0, 0, (⟨#[]⟩ : ByteArray), bt172.2)))) else (none)))) else (some (0, 0, 0, (⟨#[]⟩ : ByteArray), t167))) = some (r1, r2, r3, r4, r5) := H
 have A4 := zM A40
 clear A40
 by_cases c5 : t167 = 0
 ·rw [if_pos c5] at H
  have c5b0 : (t167 == 0) = true := beq_iff_eq.mpr c5
  have c5b1 : (t167 != 0) = false := bne_eq_false_iff_eq.mpr c5
  clear c5
  replace H := Option.bind_eq_some_iff.mp H
  obtain ⟨⟨t169, t170⟩, A60, H⟩ := H
  replace H : ((block_nonce.f t164 t165 t166).bind fun t171 => (if 16 ≤ (a2.size : Int) then ((seal_Get.f k t169 t170 a1 t171 (a2.extract 16 a2.size)).bind fun bt172 => (if bt172.2 = 0 then (if 0 < (bt172.1.size : Int) then (if 1 < (bt172.1.size : Int) then (if (Go.bits .or .i64 (wrap64 ((wrap64 (bt bt172.1 0)) * 256)) (wrap64 (bt bt172.1 1))) > 462 then (some (0, 0, 0, (⟨#[]⟩ : ByteArray), 3)) else (if 0 ≤ (wrap64 (2 + (Go.bits .or .i64 (wrap64 ((wrap64 (bt bt172.1 0)) * 256)) (wrap64 (bt bt172.1 1))))) then (if (wrap64 (2 + (Go.bits .or .i64 (wrap64 ((wrap64 (bt bt172.1 0)) * 256)) (wrap64 (bt bt172.1 1))))) ≤ (bt172.1.size : Int) then ((strings_Trim.f (bt172.1.extract ((wrap64 (2 + (Go.bits .or .i64 (wrap64 ((wrap64 (bt bt172.1 0)) * 256)) (wrap64 (bt bt172.1 1))))) : Int).toNat bt172.1.size) (⟨#[0]⟩ : ByteArray)).bind fun t174 => (if t174.toList = ([] : List UInt8) then (if 2 ≤ (wrap64 (2 + (Go.bits .or .i64 (wrap64 ((wrap64 (bt bt172.1 0)) * 256)) (wrap64 (bt bt172.1 1))))) then (some (t164, t165, t166, bt172.1.extract 2 ((wrap64 (2 + (Go.bits .or .i64 (wrap64 ((wrap64 (bt bt172.1 0)) * 256)) (wrap64 (bt bt172.1 1))))) : Int).toNat, 0)) else (none)) else (some (0, 0, 0, (⟨#[]⟩ : ByteArray), 3)))) else (none)) else (none))) else (none)) else (none)) else (some (0, 0, 0, (⟨#[]⟩ : ByteArray), bt172.2)))) else (none))) = some (r1, r2, r3, r4, r5) := H
  have A6 := zM A60
  clear A60
  replace H := Option.bind_eq_some_iff.mp H
  obtain ⟨t171, A70, H⟩ := H
  replace H : (if 16 ≤ (a2.size : Int) then ((seal_Get.f k t169 t170 a1 t171 (a2.extract 16 a2.size)).bind fun bt172 => (if bt172.2 = 0 then (if 0 < (bt172.1.size : Int) then (if 1 < (bt172.1.size : Int) then (if (Go.bits .or .i64 (wrap64 ((wrap64 (bt bt172.1 0)) * 256)) (wrap64 (bt bt172.1 1))) > 462 then (some (0, 0, 0, (⟨#[]⟩ : ByteArray), 3)) else (if 0 ≤ (wrap64 (2 + (Go.bits .or .i64 (wrap64 ((wrap64 (bt bt172.1 0)) * 256)) (wrap64 (bt bt172.1 1))))) then (if (wrap64 (2 + (Go.bits .or .i64 (wrap64 ((wrap64 (bt bt172.1 0)) * 256)) (wrap64 (bt bt172.1 1))))) ≤ (bt172.1.size : Int) then ((strings_Trim.f (bt172.1.extract ((wrap64 (2 + (Go.bits .or .i64 (wrap64 ((wrap64 (bt bt172.1 0)) * 256)) (wrap64 (bt bt172.1 1))))) : Int).toNat bt172.1.size) (⟨#[0]⟩ : ByteArray)).bind fun t174 => (if t174.toList = ([] : List UInt8) then (if 2 ≤ (wrap64 (2 + (Go.bits .or .i64 (wrap64 ((wrap64 (bt bt172.1 0)) * 256)) (wrap64 (bt bt172.1 1))))) then (some (t164, t165, t166, bt172.1.extract 2 ((wrap64 (2 + (Go.bits .or .i64 (wrap64 ((wrap64 (bt bt172.1 0)) * 256)) (wrap64 (bt bt172.1 1))))) : Int).toNat, 0)) else (none)) else (some (0, 0, 0, (⟨#[]⟩ : ByteArray), 3)))) else (none)) else (none))) else (none)) else (none)) else (some (0, 0, 0, (⟨#[]⟩ : ByteArray), bt172.2)))) else (none)) = some (r1, r2, r3, r4, r5) := H
  have A7 := zM A70
  clear A70
  by_cases c8 : 16 ≤ (a2.size : Int)
  ·rw [if_pos c8] at H
   have c8b0 := eq_true c8
   have c8b1 : decide (16 ≤ (a2.size : Int)) = true := decide_eq_true c8
   clear c8
   replace H := Option.bind_eq_some_iff.mp H
   obtain ⟨⟨t172, t173⟩, A90, H⟩ := H
   replace H : (if t173 = 0 then (if 0 < (t172.size : Int) then (if 1 < (t172.size : Int) then (if (Go.bits .or .i64 (wrap64 ((wrap64 (bt t172 0)) * 256)) (wrap64 (bt t172 1))) > 462 then (some (0, 0, 0, (⟨#[]⟩ : ByteArray), 3)) else (if 0 ≤ (wrap64 (2 + (Go.bits .or .i64 (wrap64 ((wrap64 (bt t172 0)) * 256)) (wrap64 (bt t172 1))))) then (if (wrap64 (2 + (Go.bits .or .i64 (wrap64 ((wrap64 (bt t172 0)) * 256)) (wrap64 (bt t172 1))))) ≤ (t172.size : Int) then ((strings_Trim.f (t172.extract ((wrap64 (2 + (Go.bits .or .i64 (wrap64 ((wrap64 (bt t172 0)) * 256)) (wrap64 (bt t172 1))))) : Int).toNat t172.size) (⟨#[0]⟩ : ByteArray)).bind fun t174 => (if t174.toList = ([] : List UInt8) then (if 2 ≤ (wrap64 (2 + (Go.bits .or .i64 (wrap64 ((wrap64 (bt t172 0)) * 256)) (wrap64 (bt t172 1))))) then (some (t164, t165, t166, t172.extract 2 ((wrap64 (2 + (Go.bits .or .i64 (wrap64 ((wrap64 (bt t172 0)) * 256)) (wrap64 (bt t172 1))))) : Int).toNat, 0)) else (none)) else (some (0, 0, 0, (⟨#[]⟩ : ByteArray), 3)))) else (none)) else (none))) else (none)) else (none)) else (some (0, 0, 0, (⟨#[]⟩ : ByteArray), t173))) = some (r1, r2, r3, r4, r5) := H
   have A9 := zM A90
   clear A90
   by_cases c10 : t173 = 0
   ·rw [if_pos c10] at H
    have c10b0 : (t173 == 0) = true := beq_iff_eq.mpr c10
    have c10b1 : (t173 != 0) = false := bne_eq_false_iff_eq.mpr c10
    clear c10
    by_cases c11 : 0 < (t172.size : Int)
    ·rw [if_pos c11] at H
     have c11b0 : decide (0 < (t172.size : Int)) = true := decide_eq_true c11
     have c11b1 : decide (0 < t172.size) = true := decide_eq_true (by omega)
     clear c11
     by_cases c13 : 1 < (t172.size : Int)
     ·rw [if_pos c13] at H
      have c13b0 : decide (1 < (t172.size : Int)) = true := decide_eq_true c13
      have c13b1 : decide (1 < t172.size) = true := decide_eq_true (by omega)
      clear c13
      by_cases c15 : (Go.bits .or .i64 (wrap64 ((wrap64 (bt t172 0)) * 256)) (wrap64 (bt t172 1))) > 462
      ·rw [if_pos c15] at H
       have c15b0 : decide (462 < (Go.bits .or .i64 (wrap64 ((wrap64 (bt t172 0)) * 256)) (wrap64 (bt t172 1)))) = true := decide_eq_true c15
       clear c15
       simp only [Option.some.injEq, Prod.mk.injEq] at H
       obtain ⟨rfl, rfl, rfl, rfl, rfl⟩ := H
       go_enter Tryd.func8, Tryd.ntmps8
       try go_wp2_with (first | ((with_reducible refine gate_dst (N := 6) rfl ?_); refine box_event ?hg (N := 6) ?hd (cs := #[.int .u32 0, .int .u64 0, .int .u32 0]) (t := 25) ?hr ?_; (case hd => rfl); (case hg => rfl); (case hr => first | (go_simp; done) | (go_simp; rfl)); intro gb163 hg w16 hbox hb; have n0_ := zM (below_step (by repeat (first | (with_reducible first | exact HB.out | apply zL | apply zP | apply zW) | exact HB.out)) hb); have n1_ := zM (hbox); have n2_ := zM ((by rw [hg]; exact (below_size (by repeat (first | (with_reducible first | exact HB.out | apply zL | apply zP | apply zW) | exact HB.out))) : w.heap.size ≤ gb163)); have n3_ := zM ((by rw [hg]; exact (below_size (by repeat (first | (with_reducible first | exact HB.out | apply zL | apply zP | apply zW) | exact HB.out))) : w.heap.size ≤ gb163)); clear HB; have HB := n0_; have BK163 := n1_; have GW163 := n2_; have GE163 := n3_; clear n0_ n1_ n2_ n3_; clear hb hbox hg) | ((with_reducible refine gate_callee (f := 9) rfl ?_); refine goesL_ (some 15) rfl rfl Tryd.func9 (by kernel_rfl) rfl #[.string a2] rfl (by (try simp only [zY, List.map_cons, List.map_nil]); first | done | rfl | (simp only [zV, zX]; rfl)) ?_; (with_reducible refine (block_Head.calls a2 t164 t165 t166 t167 _ A4.out).mono ?_); rintro e w17 ⟨rfl, hb⟩; refine ⟨_, rfl, ?_⟩; have n0_ := zM (zB (g := gb163) (o := .cells #[.int .u32 0, .int .u64 0, .int .u32 0] 25 (0, 0)) (by (with_reducible repeat (first | refine zN ?_ _ | refine zD ?_ | refine zA ?_ _)); exact BK163.out) hb); have n1_ := zM (below_step (by repeat (first | (with_reducible first | exact HB.out | apply zL | apply zP | apply zW | refine zS ?_ GE163.out) | exact HB.out)) hb); clear BK163; clear HB; have BK163 := n0_; have HB := n1_; clear n0_ n1_; (try clear hb); (try clear hb2); (try clear hk); (try clear hi)) | ((with_reducible refine gate_dst (N := 9) rfl ?_); refine box_event ?hg (N := 9) ?hd (cs := #[.int .u32 0, .int .u64 0, .int .u32 0]) (t := 25) ?hr ?_; (case hd => rfl); (case hg => rfl); (case hr => first | (go_simp; done) | (go_simp; rfl)); intro gb168 hg w18 hbox hb; have n0_ := zM (zB (g := gb163) (o := .cells #[.int .u32 0, .int .u64 0, .int .u32 0] 25 (0, 0)) (by (with_reducible repeat (first | refine zN ?_ _ | refine zD ?_ | refine zA ?_ _)); exact BK163.out) hb); have n1_ := zM (below_step (by repeat (first | (with_reducible first | exact HB.out | apply zL | apply zP | apply zW | refine zS ?_ GE163.out) | exact HB.out)) hb); have n2_ := zM (hbox); have n3_ := zM ((by rw [hg]; exact (below_size (by repeat (first | (with_reducible first | exact HB.out | apply zL | apply zP | apply zW | refine zS ?_ GE163.out) | exact HB.out))) : w.heap.size ≤ gb168)); have n4_ := zM ((by rw [hg]; exact (below_size (by repeat (first | (with_reducible first | exact HB.out | apply zL | apply zP | apply zW | refine zS ?_ GE163.out) | exact HB.out))) : w.heap.size ≤ gb168)); have n5_ := zM ((by rw [hg]; exact Nat.ne_of_lt (blk_lt (g := gb163) (o := .cells #[.int .u32 0, .int .u64 0, .int .u32 0] 25 (0, 0)) (by (with_reducible repeat (first | refine zN ?_ _ | refine zD ?_ | refine zA ?_ _)); exact BK163.out)) : gb163 ≠ gb168)); have n6_ := zM ((by rw [hg]; exact Nat.ne_of_gt (blk_lt (g := gb163) (o := .cells #[.int .u32 0, .int .u64 0, .int .u32 0] 25 (0, 0)) (by (with_reducible repeat (first | refine zN ?_ _ | refine zD ?_ | refine zA ?_ _)); exact BK163.out)) : gb168 ≠ gb163)); clear BK163; clear HB; have BK163 := n0_; have HB := n1_; have BK168 := n2_; have GW168 := n3_; have GE168 := n4_; have NB163_168 := n5_; have NB168_163 := n6_; clear n0_ n1_ n2_ n3_ n4_ n5_ n6_; clear hb hbox hg; have hnb19 := NB168_163.out; have hnc19 := NB163_168.out; have hcz20_0 : w18.cell? ⟨gb168, 0, none⟩ = some (.int .u32 0) := (zC BK168.out 0).trans rfl; have hcz20_1 : w18.cell? ⟨gb168, 1, none⟩ = some (.int .u64 0) := (zC BK168.out 1).trans rfl; have hcz20_2 : w18.cell? ⟨gb168, 2, none⟩ = some (.int .u32 0) := (zC BK168.out 2).trans rfl; have hfz20_0 := zF BK168.out 0; have hfz20_1 := zF BK168.out 1; have hfz20_2 := zF BK168.out 2))
       have n0_ : Aside0 ((((w18.setCell ⟨gb168, 0, none⟩ (.int .u32 t164)).setCell ⟨gb168, 1, none⟩ (.int .u64 t165)).setCell ⟨gb168, 2, none⟩ (.int .u32 t166)).heap[gb163]? = some (.cells #[.int .u32 0, .int .u64 0, .int .u32 0] 25 (0, 0))) := ⟨by (with_reducible repeat (first | refine zN ?_ _ | refine zD ?_ | refine zA ?_ _)); refine blk_far ?_ NB163_168.out _; (with_reducible repeat (first | refine zN ?_ _ | refine zD ?_ | refine zA ?_ _)); refine blk_far ?_ NB163_168.out _; (with_reducible repeat (first | refine zN ?_ _ | refine zD ?_ | refine zA ?_ _)); refine blk_far ?_ NB163_168.out _; (with_reducible repeat (first | refine zN ?_ _ | refine zD ?_ | refine zA ?_ _)); exact BK163.out⟩
       have n1_ : Aside0 ((((w18.setCell ⟨gb168, 0, none⟩ (.int .u32 t164)).setCell ⟨gb168, 1, none⟩ (.int .u64 t165)).setCell ⟨gb168, 2, none⟩ (.int .u32 t166)).heap[gb168]? = some (.cells #[.int .u32 t164, .int .u64 t165, .int .u32 t166] 25 (0, 0))) := ⟨by (with_reducible repeat (first | refine zN ?_ _ | refine zD ?_ | refine zA ?_ _)); refine blk_put (cs := #[.int .u32 t164, .int .u64 t165, .int .u32 0]) ?_ 2 _ rfl; (with_reducible repeat (first | refine zN ?_ _ | refine zD ?_ | refine zA ?_ _)); refine blk_put (cs := #[.int .u32 t164, .int .u64 0, .int .u32 0]) ?_ 1 _ rfl; (with_reducible repeat (first | refine zN ?_ _ | refine zD ?_ | refine zA ?_ _)); refine blk_put (cs := #[.int .u32 0, .int .u64 0, .int .u32 0]) ?_ 0 _ rfl; (with_reducible repeat (first | refine zN ?_ _ | refine zD ?_ | refine zA ?_ _)); exact BK168.out⟩
       have n2_ : Aside0 (Below w.heap.size w (((w18.setCell ⟨gb168, 0, none⟩ (.int .u32 t164)).setCell ⟨gb168, 1, none⟩ (.int .u64 t165)).setCell ⟨gb168, 2, none⟩ (.int .u32 t166))) := ⟨by repeat (first | (with_reducible first | exact HB.out | apply zL | apply zP | apply zW | refine zS ?_ GE163.out | refine zS ?_ GE168.out) | exact HB.out)⟩
       (try clear BK163)
       (try clear BK168)
       (try clear HB)
       generalize (((w18.setCell ⟨gb168, 0, none⟩ (.int .u32 t164)).setCell ⟨gb168, 1, none⟩ (.int .u64 t165)).setCell ⟨gb168, 2, none⟩ (.int .u32 t166)) = w21 at n0_ n1_ n2_ ⊢
       have BK163 := n0_
       have BK168 := n1_
       have HB := n2_
       clear n0_ n1_ n2_
       have n0_ := zM (zD BK163.out)
       have n1_ := zM (zD BK168.out)
       have n2_ := zM (zW HB.out)
       clear BK163
       clear BK168
       clear HB
       have BK163 := n0_
       have BK168 := n1_
       have HB := n2_
       clear n0_ n1_ n2_
       refine start_ (n := 15) (S := fun w' => w'.cell? ⟨gb168, 0, none⟩ = some (.int .u32 t164) ∧ w'.cell? ⟨gb168, 1, none⟩ = some (.int .u64 t165) ∧ w'.cell? ⟨gb168, 2, none⟩ = some (.int .u32 t166)) (ds := []) zb5_0 (by kernel_rfl) rfl rfl ⟨(zC BK168.out 0).trans rfl, (zC BK168.out 1).trans rfl, (zC BK168.out 2).trans rfl⟩ (fun hHeld => ?_); refine with_tabW block_Get.tab4 block_Get.bits4 (fun HT_ HW_ => ?_)
       generalize w21.drew = w22 at BK163 BK168 HB hHeld ⊢
       refine pure_ (i := 0) (N := some 23) (v := ?_) (a' := ?_) zb5_1 rfl rfl (any_of HT_.out (by kernel_rfl)) (fun _ _ _ h => h) (Or.inl ⟨by rfl, ?_⟩) ?_ ?_
       rotate_left
       ·intro w'
        go_simp
        with_reducible rfl
       rotate_left
       ·simp only [Act.put, zT, zZ, zU, i64_w, i32_w]
        rfl
       refine pure_ (i := 1) (N := some 24) (v := ?_) (a' := ?_) zb5_2 rfl rfl (any_of HT_.out (by kernel_rfl)) (fun _ _ _ h => h) (Or.inl ⟨by rfl, ?_⟩) ?_ ?_
       rotate_left
       ·intro w'
        go_simp
        with_reducible rfl
       rotate_left
       ·simp only [Act.put, zT, zZ, zU, i64_w, i32_w]
        rfl
       refine pure_ (i := 4) (N := some 27) (v := ?_) (a' := ?_) zb5_3 rfl rfl (any_of HT_.out (by kernel_rfl)) (fun _ _ _ h => h) (Or.inl ⟨by rfl, ?_⟩) ?_ ?_
       rotate_left
       ·intro w'
        go_simp
        with_reducible rfl
       rotate_left
       ·simp only [Act.put, zT, zZ, zU, i64_w, i32_w]
        rfl
       refine pure_ (i := 7) (N := some 30) (v := ?_) (a' := ?_) zb5_4 rfl rfl (any_of HT_.out (by kernel_rfl)) (fun _ _ _ h => h) (Or.inl ⟨by rfl, ?_⟩) ?_ ?_
       rotate_left
       ·intro w'
        go_simp
        with_reducible rfl
       rotate_left
       ·simp only [Act.put, zT, zZ, zU, i64_w, i32_w]
        rfl
       refine pure_ (i := 8) (N := some 31) (v := ?_) (a' := ?_) zb5_5 rfl rfl (any_of HT_.out (by kernel_rfl)) (fun _ _ _ h => h) (Or.inl ⟨by rfl, ?_⟩) ?_ ?_
       rotate_left
       ·intro w'
        go_simp
        with_reducible rfl
       rotate_left
       ·simp only [Act.put, zT, zZ, zU, i64_w, i32_w]
        rfl
       refine take_ (i := 2) (N := some 25) (v := ?_) (a' := ?_) zb5_6 rfl rfl (take_ofW HT_.out HW_.out (by kernel_rfl)) (fun _ _ _ h => h) (Or.inl ⟨by rfl, ?_⟩) hHeld ?_ ?_
       rotate_left
       ·rintro w' ⟨s0, s1, s2⟩
        go_simp
        with_reducible rfl
       rotate_left
       ·simp only [Act.put, zT, zZ, zU, i64_w, i32_w]
        rfl
       refine take_ (i := 5) (N := some 28) (v := ?_) (a' := ?_) zb5_7 rfl rfl (take_ofW HT_.out HW_.out (by kernel_rfl)) (fun _ _ _ h => h) (Or.inl ⟨by rfl, ?_⟩) hHeld ?_ ?_
       rotate_left
       ·rintro w' ⟨s0, s1, s2⟩
        go_simp
        with_reducible rfl
       rotate_left
       ·simp only [Act.put, zT, zZ, zU, i64_w, i32_w]
        rfl
       refine one_ (i := 3) (N := some 26) zb5_8 rfl rfl (one_of HT_.out (by kernel_rfl)) (by decide) (fun K hK => ?_)
       refine goes_ Tryd.func18 (by kernel_rfl) rfl #[.string a0, .int .u32 t164] (by rfl) rfl rfl (by (try simp only [zY, List.map_cons, List.map_nil]); first | done | rfl | (simp only [zV, zX]; rfl)) ?_
       with_reducible refine (keys_Of.calls k a0 t164 t169 t170 _ ?side1 A6.out).mono ?_
       (case side1 => exact Go.Proofs.YtgbhjkkfleeodaaDoor.Sha.SL.below HG_.out (by repeat (first | (with_reducible first | exact HB.out | apply zL | apply zP | apply zW | refine zS ?_ GE163.out | refine zS ?_ GE168.out) | exact HB.out)))
       rintro e w23 ⟨rfl, hb⟩
       refine ⟨_, rfl, ?_⟩
       have n0_ := zM (zB (g := gb163) (o := .cells #[.int .u32 0, .int .u64 0, .int .u32 0] 25 (0, 0)) (by (with_reducible repeat (first | refine zN ?_ _ | refine zD ?_ | refine zA ?_ _)); exact BK163.out) hb)
       have n1_ := zM (zB (g := gb168) (o := .cells #[.int .u32 t164, .int .u64 t165, .int .u32 t166] 25 (0, 0)) (by (with_reducible repeat (first | refine zN ?_ _ | refine zD ?_ | refine zA ?_ _)); exact BK168.out) hb)
       have n2_ := zM (below_step (by repeat (first | (with_reducible first | exact HB.out | apply zL | apply zP | apply zW | refine zS ?_ GE163.out | refine zS ?_ GE168.out) | exact HB.out)) hb)
       clear BK163
       clear BK168
       clear HB
       have BK163 := n0_
       have BK168 := n1_
       have HB := n2_
       clear n0_ n1_ n2_
       (try clear hb)
       (try clear hb2)
       (try clear hk)
       (try clear hi)
       refine hK.out _ _ ⟨(zC BK168.out 0).trans rfl, (zC BK168.out 1).trans rfl, (zC BK168.out 2).trans rfl⟩ (fun hHeld => ?_)
       clear hK K
       refine norm_ (a' := ?_) ?_ ?_
       rotate_left
       ·show Act.put _ (some 26) _ = _
        simp only [Act.put, zT, zZ, zU, i64_w, i32_w]
        rfl
       refine one_ (i := 6) (N := some 29) zb5_9 rfl rfl (one_of HT_.out (by kernel_rfl)) (by decide) (fun K hK => ?_)
       refine goes_ Tryd.func16 (by kernel_rfl) rfl #[.agg #[.int .u32 t164, .int .u64 t165, .int .u32 t166]] (by rfl) rfl rfl (by (try simp only [zY, List.map_cons, List.map_nil]); first | done | rfl | (simp only [zV, zX]; rfl)) ?_
       with_reducible refine (block_nonce.calls t164 t165 t166 t171 _ A7.out).mono ?_
       rintro e w24 ⟨rfl, hb⟩
       refine ⟨_, rfl, ?_⟩
       have n0_ := zM (zB (g := gb163) (o := .cells #[.int .u32 0, .int .u64 0, .int .u32 0] 25 (0, 0)) (by (with_reducible repeat (first | refine zN ?_ _ | refine zD ?_ | refine zA ?_ _)); exact BK163.out) hb)
       have n1_ := zM (zB (g := gb168) (o := .cells #[.int .u32 t164, .int .u64 t165, .int .u32 t166] 25 (0, 0)) (by (with_reducible repeat (first | refine zN ?_ _ | refine zD ?_ | refine zA ?_ _)); exact BK168.out) hb)
       have n2_ := zM (below_step (by repeat (first | (with_reducible first | exact HB.out | apply zL | apply zP | apply zW | refine zS ?_ GE163.out | refine zS ?_ GE168.out) | exact HB.out)) hb)
       clear BK163
       clear BK168
       clear HB
       have BK163 := n0_
       have BK168 := n1_
       have HB := n2_
       clear n0_ n1_ n2_
       (try clear hb)
       (try clear hb2)
       (try clear hk)
       (try clear hi)
       refine hK.out _ _ ⟨(zC BK168.out 0).trans rfl, (zC BK168.out 1).trans rfl, (zC BK168.out 2).trans rfl⟩ (fun hHeld => ?_)
       clear hK K
       refine norm_ (a' := ?_) ?_ ?_
       rotate_left
       ·show Act.put _ (some 29) _ = _
        simp only [Act.put, zT, zZ, zU, i64_w, i32_w]
        rfl
       refine one_ (i := 9) (N := some 32) zb5_10 rfl rfl (one_of HT_.out (by kernel_rfl)) (by decide) (fun K hK => ?_)
       refine goes_ Tryd.func19 (by kernel_rfl) rfl #[.agg #[.string t169, .string t170], .int .i64 a1, .string t171, .string (a2.extract 16 a2.size)] (by rfl) rfl rfl (by (try simp only [zY, List.map_cons, List.map_nil]); first | done | rfl | (simp only [zV, zX]; rfl)) ?_
       with_reducible refine (seal_Get.calls k t169 t170 a1 t171 (a2.extract 16 a2.size) t172 t173 _ ?side1 A9.out).mono ?_
       (case side1 => exact Go.Proofs.YtgbhjkkfleeodaaDoor.Sha.SL.below HG_.out (by repeat (first | (with_reducible first | exact HB.out | apply zL | apply zP | apply zW | refine zS ?_ GE163.out | refine zS ?_ GE168.out) | exact HB.out)))
       rintro e w25 ⟨rfl, hb⟩
       refine ⟨_, rfl, ?_⟩
       have n0_ := zM (zB (g := gb163) (o := .cells #[.int .u32 0, .int .u64 0, .int .u32 0] 25 (0, 0)) (by (with_reducible repeat (first | refine zN ?_ _ | refine zD ?_ | refine zA ?_ _)); exact BK163.out) hb)
       have n1_ := zM (zB (g := gb168) (o := .cells #[.int .u32 t164, .int .u64 t165, .int .u32 t166] 25 (0, 0)) (by (with_reducible repeat (first | refine zN ?_ _ | refine zD ?_ | refine zA ?_ _)); exact BK168.out) hb)
       have n2_ := zM (below_step (by repeat (first | (with_reducible first | exact HB.out | apply zL | apply zP | apply zW | refine zS ?_ GE163.out | refine zS ?_ GE168.out) | exact HB.out)) hb)
       clear BK163
       clear BK168
       clear HB
       have BK163 := n0_
       have BK168 := n1_
       have HB := n2_
       clear n0_ n1_ n2_
       (try clear hb)
       (try clear hb2)
       (try clear hk)
       (try clear hi)
       refine hK.out _ _ ⟨(zC BK168.out 0).trans rfl, (zC BK168.out 1).trans rfl, (zC BK168.out 2).trans rfl⟩ (fun hHeld => ?_)
       clear hK K
       refine norm_ (a' := ?_) ?_ ?_
       rotate_left
       ·show Act.put _ (some 32) _ = _
        simp only [Act.put, zT, zZ, zU, i64_w, i32_w]
        rfl
       refine pure_ (i := 10) (N := some 22) (v := ?_) (a' := ?_) zb5_11 rfl rfl (any_of HT_.out (by kernel_rfl)) (fun _ _ _ h => h) (Or.inl ⟨by rfl, ?_⟩) ?_ ?_
       rotate_left
       ·intro w'
        go_simp
        with_reducible rfl
       rotate_left
       ·simp only [Act.put, zT, zZ, zU, i64_w, i32_w]
        rfl
       refine pure_ (i := 11) (N := some 33) (v := ?_) (a' := ?_) zb5_12 rfl rfl (any_of HT_.out (by kernel_rfl)) (fun _ _ _ h => h) (Or.inl ⟨by rfl, ?_⟩) ?_ ?_
       rotate_left
       ·intro w'
        go_simp
        with_reducible rfl
       rotate_left
       ·simp only [Act.put, zT, zZ, zU, i64_w, i32_w]
        rfl
       refine pure_ (i := 12) (N := some 34) (v := ?_) (a' := ?_) zb5_13 rfl rfl (any_of HT_.out (by kernel_rfl)) (fun _ _ _ h => h) (Or.inl ⟨by rfl, ?_⟩) ?_ ?_
       rotate_left
       ·intro w'
        go_simp
        with_reducible rfl
       rotate_left
       ·simp only [Act.put, zT, zZ, zU, i64_w, i32_w]
        rfl
       refine pure_ (i := 13) (N := some 11) (v := ?_) (a' := ?_) zb5_14 rfl rfl (any_of HT_.out (by kernel_rfl)) (fun _ _ _ h => h) (Or.inl ⟨by rfl, ?_⟩) ?_ ?_
       rotate_left
       ·intro w'
        go_simp
        with_reducible rfl
       rotate_left
       ·simp only [Act.put, zT, zZ, zU, i64_w, i32_w]
        rfl
       refine pure_ (i := 14) (N := some 10) (v := ?_) (a' := ?_) zb5_15 rfl rfl (any_of HT_.out (by kernel_rfl)) (fun _ _ _ h => h) (Or.inl ⟨by rfl, ?_⟩) ?_ ?_
       rotate_left
       ·intro w'
        go_simp
        with_reducible rfl
       rotate_left
       ·simp only [Act.put, zT, zZ, zU, i64_w, i32_w]
        rfl
       refine done_ (done_of HT_.out (by kernel_rfl)) ?_
       try go_wp2
       have n0_ := zM (zD BK163.out)
       have n1_ := zM (zD BK168.out)
       have n2_ := zM (zW HB.out)
       clear BK163
       clear BK168
       clear HB
       have BK163 := n0_
       have BK168 := n1_
       have HB := n2_
       clear n0_ n1_ n2_
       have p12 : 0 ≤ (0 : Int) := (by omega)
       have q12 : 0 < t172.size := (by have : (0 : Int) < (t172.size : Int) := of_decide_eq_true (by first | (with_reducible assumption) | assumption); omega)
       have hx12 : ∀ h : 0 < t172.size, ((t172[0]'h).toNat : Int) = bt t172 0 := bt_at t172 0
       clear p12
       have qi12 : (0 < (t172.size : Int)) = True := eq_true (of_decide_eq_true (by first | (with_reducible assumption) | assumption))
       replace q12 := eq_true q12
       have p14 : 0 ≤ (1 : Int) := (by omega)
       have q14 : 1 < t172.size := (by have : (1 : Int) < (t172.size : Int) := of_decide_eq_true (by first | (with_reducible assumption) | assumption); omega)
       have hx14 : ∀ h : 1 < t172.size, ((t172[1]'h).toNat : Int) = bt t172 1 := bt_at t172 1
       clear p14
       have qi14 : (1 < (t172.size : Int)) = True := eq_true (of_decide_eq_true (by first | (with_reducible assumption) | assumption))
       replace q14 := eq_true q14
       refine start_ (n := 9) (S := fun w' => True) (ds := []) zb5_16 (by kernel_rfl) rfl rfl trivial (fun hHeld => ?_); refine with_tabW block_Get.tab7 block_Get.bits7 (fun HT_ HW_ => ?_)
       generalize w25.drew = w26 at BK163 BK168 HB hHeld ⊢
       refine pure_ (i := 0) (N := some 39) (v := ?_) (a' := ?_) zb5_17 rfl rfl (any_of HT_.out (by kernel_rfl)) (fun _ _ _ h => h) (Or.inl ⟨by rfl, ?_⟩) ?_ ?_
       rotate_left
       ·intro w'
        go_simp
        with_reducible rfl
       rotate_left
       ·simp only [Act.put, zT, zZ, zU, i64_w, i32_w]
        rfl
       refine pure_ (i := 4) (N := some 43) (v := ?_) (a' := ?_) zb5_18 rfl rfl (any_of HT_.out (by kernel_rfl)) (fun _ _ _ h => h) (Or.inl ⟨by rfl, ?_⟩) ?_ ?_
       rotate_left
       ·intro w'
        go_simp
        with_reducible rfl
       rotate_left
       ·simp only [Act.put, zT, zZ, zU, i64_w, i32_w]
        rfl
       refine take_ (i := 1) (N := some 40) (v := ?_) (a' := ?_) zb5_19 rfl rfl (take_ofW HT_.out HW_.out (by kernel_rfl)) (fun _ _ _ h => h) (Or.inl ⟨by rfl, ?_⟩) hHeld ?_ ?_
       rotate_left
       ·intro w' _
        go_simp
        with_reducible rfl
       rotate_left
       ·simp only [Act.put, zT, zZ, zU, i64_w, i32_w]
        rfl
       refine pure_ (i := 2) (N := some 41) (v := ?_) (a' := ?_) zb5_20 rfl rfl (any_of HT_.out (by kernel_rfl)) (fun _ _ _ h => h) (Or.inl ⟨by rfl, ?_⟩) ?_ ?_
       rotate_left
       ·intro w'
        go_simp
        with_reducible rfl
       rotate_left
       ·simp only [Act.put, zT, zZ, zU, i64_w, i32_w]
        rfl
       refine pure_ (i := 3) (N := some 42) (v := ?_) (a' := ?_) #[true, true, true, true, true, false, false, false, false] rfl rfl (any_of HT_.out (by kernel_rfl)) (fun _ _ _ h => h) (Or.inl ⟨by rfl, ?_⟩) ?_ ?_
       rotate_left
       ·intro w'
        go_simp
        with_reducible rfl
       rotate_left
       ·simp only [Act.put, zT, zZ, zU, i64_w, i32_w]
        rfl
       refine take_ (i := 5) (N := some 44) (v := ?_) (a' := ?_) #[true, true, true, true, true, true, false, false, false] rfl rfl (take_ofW HT_.out HW_.out (by kernel_rfl)) (fun _ _ _ h => h) (Or.inl ⟨by rfl, ?_⟩) hHeld ?_ ?_
       rotate_left
       ·intro w' _
        go_simp
        with_reducible rfl
       rotate_left
       ·simp only [Act.put, zT, zZ, zU, i64_w, i32_w]
        rfl
       refine pure_ (i := 6) (N := some 45) (v := ?_) (a' := ?_) #[true, true, true, true, true, true, true, false, false] rfl rfl (any_of HT_.out (by kernel_rfl)) (fun _ _ _ h => h) (Or.inl ⟨by rfl, ?_⟩) ?_ ?_
       rotate_left
       ·intro w'
        go_simp
        with_reducible rfl
       rotate_left
       ·simp only [Act.put, zT, zZ, zU, i64_w, i32_w]
        rfl
       refine pure_ (i := 7) (N := some 46) (v := ?_) (a' := ?_) #[true, true, true, true, true, true, true, true, false] rfl rfl (any_of HT_.out (by kernel_rfl)) (fun _ _ _ h => h) (Or.inl ⟨by rfl, ?_⟩) ?_ ?_
       rotate_left
       ·intro w'
        go_simp
        with_reducible rfl
       rotate_left
       ·simp only [Act.put, zT, zZ, zU, i64_w, i32_w]
        rfl
       refine pure_ (i := 8) (N := some 12) (v := ?_) (a' := ?_) #[true, true, true, true, true, true, true, true, true] rfl rfl (any_of HT_.out (by kernel_rfl)) (fun _ _ _ h => h) (Or.inl ⟨by rfl, ?_⟩) ?_ ?_
       rotate_left
       ·intro w'
        go_simp
        with_reducible rfl
       rotate_left
       ·simp only [Act.put, zT, zZ, zU, i64_w, i32_w]
        rfl
       refine done_ (done_of HT_.out (by kernel_rfl)) ?_
       have hcz27_0 : w26.cell? ⟨gb163, 0, none⟩ = some (.int .u32 0) := (zC BK163.out 0).trans rfl
       have hcz27_1 : w26.cell? ⟨gb163, 1, none⟩ = some (.int .u64 0) := (zC BK163.out 1).trans rfl
       have hcz27_2 : w26.cell? ⟨gb163, 2, none⟩ = some (.int .u32 0) := (zC BK163.out 2).trans rfl
       have hfz27_0 := zF BK163.out 0
       have hfz27_1 := zF BK163.out 1
       have hfz27_2 := zF BK163.out 2
       try go_wp2
       refine bodyPost_ret (results_ctt rfl _ _ gb163 25 #[.int .u32 0, .int .u64 0, .int .u32 0] (0, 0) _ rfl (by (with_reducible repeat (first | refine zN ?_ _ | refine zD ?_ | refine zA ?_ _)); refine blk_put (cs := #[.int .u32 0, .int .u64 0, .int .u32 0]) ?_ 2 _ rfl; (with_reducible repeat (first | refine zN ?_ _ | refine zD ?_ | refine zA ?_ _)); refine blk_put (cs := #[.int .u32 0, .int .u64 0, .int .u32 0]) ?_ 1 _ rfl; (with_reducible repeat (first | refine zN ?_ _ | refine zD ?_ | refine zA ?_ _)); refine blk_put (cs := #[.int .u32 0, .int .u64 0, .int .u32 0]) ?_ 0 _ rfl; (with_reducible repeat (first | refine zN ?_ _ | refine zD ?_ | refine zA ?_ _)); exact BK163.out) Tryd.underlying25 rfl (by kernel_rfl)) rfl ?_
       exact ⟨by first | rfl | (simp [errW_none, errW_some] <;> rfl) | (simp [*, errW_none, errW_some] <;> rfl), by repeat (first | (with_reducible first | exact HB.out | apply zL | apply zP | apply zW | refine zS ?_ GE163.out | refine zS ?_ GE168.out) | exact HB.out)⟩
      ·rw [if_neg c15] at H
       have c15b0 : decide (462 < (Go.bits .or .i64 (wrap64 ((wrap64 (bt t172 0)) * 256)) (wrap64 (bt t172 1)))) = false := decide_eq_false c15
       clear c15
       obtain ⟨ji28, hji28⟩ : ∃ j_ : Int, (wrap64 (2 + (Go.bits .or .i64 (wrap64 ((wrap64 (bt t172 0)) * 256)) (wrap64 (bt t172 1))))) = j_ := ⟨_, rfl⟩
       replace H : (if 0 ≤ (ji28) then (if (ji28) ≤ (t172.size : Int) then ((strings_Trim.f (t172.extract ((ji28) : Int).toNat t172.size) (⟨#[0]⟩ : ByteArray)).bind fun t174 => (if t174.toList = ([] : List UInt8) then (if 2 ≤ (ji28) then (some (t164, t165, t166, t172.extract 2 ((ji28) : Int).toNat, 0)) else (none)) else (some (0, 0, 0, (⟨#[]⟩ : ByteArray), 3)))) else (none)) else (none)) = some (r1, r2, r3, r4, r5) := by first | (rw [hji28] at H; exact H) | (simp only [hji28] at H ⊢; exact H)
       (try rw [hji28] at A4)
       (try rw [hji28] at A6)
       (try rw [hji28] at A7)
       (try rw [hji28] at A9)
       have hji28w : (IntKind.i64.wrap (2 + (Go.bits .or .i64 (wrap64 ((wrap64 (bt t172 0)) * 256)) (wrap64 (bt t172 1))))) = ji28 := (i64_w _).trans hji28
       by_cases c29 : 0 ≤ (ji28)
       ·rw [if_pos c29] at H
        have c29b0 := eq_true c29
        have c29b1 : decide (0 ≤ (ji28)) = true := decide_eq_true c29
        clear c29
        by_cases c30 : (ji28) ≤ (t172.size : Int)
        ·rw [if_pos c30] at H
         have c30b0 := eq_true c30
         have c30b1 : decide ((ji28) ≤ (t172.size : Int)) = true := decide_eq_true c30
         clear c30
         replace H := Option.bind_eq_some_iff.mp H
         obtain ⟨t174, A310, H⟩ := H
         replace H : (if t174.toList = ([] : List UInt8) then (if 2 ≤ (ji28) then (some (t164, t165, t166, t172.extract 2 ((ji28) : Int).toNat, 0)) else (none)) else (some (0, 0, 0, (⟨#[]⟩ : ByteArray), 3))) = some (r1, r2, r3, r4, r5) := H
         have A31 := zM A310
         clear A310
         by_cases c32 : t174.toList = ([] : List UInt8)
         ·rw [if_pos c32] at H
          have c32f : t174.toList.isEmpty = true := by first | (rw [c32]; rfl) | (cases hh_ : t174.toList with | nil => exact absurd hh_ c32 | cons _ _ => rfl)
          have c32b0 : (t174.toList == ([] : List UInt8)) = true := beq_iff_eq.mpr c32
          have c32b1 : (t174.toList != ([] : List UInt8)) = false := bne_eq_false_iff_eq.mpr c32
          clear c32
          by_cases c33 : 2 ≤ (ji28)
          ·rw [if_pos c33] at H
           have c33b0 := eq_true c33
           have c33b1 : decide (2 ≤ (ji28)) = true := decide_eq_true c33
           clear c33
           have c34b0 := eq_true (of_decide_eq_true (by first | (with_reducible assumption) | assumption) : (ji28) ≤ (t172.size : Int))
           simp only [Option.some.injEq, Prod.mk.injEq] at H
           obtain ⟨rfl, rfl, rfl, rfl, rfl⟩ := H
           go_enter Tryd.func8, Tryd.ntmps8
           try go_wp2_with (first | ((with_reducible refine gate_dst (N := 6) rfl ?_); refine box_event ?hg (N := 6) ?hd (cs := #[.int .u32 0, .int .u64 0, .int .u32 0]) (t := 25) ?hr ?_; (case hd => rfl); (case hg => rfl); (case hr => first | (go_simp; done) | (go_simp; rfl)); intro gb163 hg w35 hbox hb; have n0_ := zM (below_step (by repeat (first | (with_reducible first | exact HB.out | apply zL | apply zP | apply zW) | exact HB.out)) hb); have n1_ := zM (hbox); have n2_ := zM ((by rw [hg]; exact (below_size (by repeat (first | (with_reducible first | exact HB.out | apply zL | apply zP | apply zW) | exact HB.out))) : w.heap.size ≤ gb163)); have n3_ := zM ((by rw [hg]; exact (below_size (by repeat (first | (with_reducible first | exact HB.out | apply zL | apply zP | apply zW) | exact HB.out))) : w.heap.size ≤ gb163)); clear HB; have HB := n0_; have BK163 := n1_; have GW163 := n2_; have GE163 := n3_; clear n0_ n1_ n2_ n3_; clear hb hbox hg) | ((with_reducible refine gate_callee (f := 9) rfl ?_); refine goesL_ (some 15) rfl rfl Tryd.func9 (by kernel_rfl) rfl #[.string a2] rfl (by (try simp only [zY, List.map_cons, List.map_nil]); first | done | rfl | (simp only [zV, zX]; rfl)) ?_; (with_reducible refine (block_Head.calls a2 t164 t165 t166 t167 _ A4.out).mono ?_); rintro e w36 ⟨rfl, hb⟩; refine ⟨_, rfl, ?_⟩; have n0_ := zM (zB (g := gb163) (o := .cells #[.int .u32 0, .int .u64 0, .int .u32 0] 25 (0, 0)) (by (with_reducible repeat (first | refine zN ?_ _ | refine zD ?_ | refine zA ?_ _)); exact BK163.out) hb); have n1_ := zM (below_step (by repeat (first | (with_reducible first | exact HB.out | apply zL | apply zP | apply zW | refine zS ?_ GE163.out) | exact HB.out)) hb); clear BK163; clear HB; have BK163 := n0_; have HB := n1_; clear n0_ n1_; (try clear hb); (try clear hb2); (try clear hk); (try clear hi)) | ((with_reducible refine gate_dst (N := 9) rfl ?_); refine box_event ?hg (N := 9) ?hd (cs := #[.int .u32 0, .int .u64 0, .int .u32 0]) (t := 25) ?hr ?_; (case hd => rfl); (case hg => rfl); (case hr => first | (go_simp; done) | (go_simp; rfl)); intro gb168 hg w37 hbox hb; have n0_ := zM (zB (g := gb163) (o := .cells #[.int .u32 0, .int .u64 0, .int .u32 0] 25 (0, 0)) (by (with_reducible repeat (first | refine zN ?_ _ | refine zD ?_ | refine zA ?_ _)); exact BK163.out) hb); have n1_ := zM (below_step (by repeat (first | (with_reducible first | exact HB.out | apply zL | apply zP | apply zW | refine zS ?_ GE163.out) | exact HB.out)) hb); have n2_ := zM (hbox); have n3_ := zM ((by rw [hg]; exact (below_size (by repeat (first | (with_reducible first | exact HB.out | apply zL | apply zP | apply zW | refine zS ?_ GE163.out) | exact HB.out))) : w.heap.size ≤ gb168)); have n4_ := zM ((by rw [hg]; exact (below_size (by repeat (first | (with_reducible first | exact HB.out | apply zL | apply zP | apply zW | refine zS ?_ GE163.out) | exact HB.out))) : w.heap.size ≤ gb168)); have n5_ := zM ((by rw [hg]; exact Nat.ne_of_lt (blk_lt (g := gb163) (o := .cells #[.int .u32 0, .int .u64 0, .int .u32 0] 25 (0, 0)) (by (with_reducible repeat (first | refine zN ?_ _ | refine zD ?_ | refine zA ?_ _)); exact BK163.out)) : gb163 ≠ gb168)); have n6_ := zM ((by rw [hg]; exact Nat.ne_of_gt (blk_lt (g := gb163) (o := .cells #[.int .u32 0, .int .u64 0, .int .u32 0] 25 (0, 0)) (by (with_reducible repeat (first | refine zN ?_ _ | refine zD ?_ | refine zA ?_ _)); exact BK163.out)) : gb168 ≠ gb163)); clear BK163; clear HB; have BK163 := n0_; have HB := n1_; have BK168 := n2_; have GW168 := n3_; have GE168 := n4_; have NB163_168 := n5_; have NB168_163 := n6_; clear n0_ n1_ n2_ n3_ n4_ n5_ n6_; clear hb hbox hg; have hnb38 := NB168_163.out; have hnc38 := NB163_168.out; have hcz39_0 : w37.cell? ⟨gb168, 0, none⟩ = some (.int .u32 0) := (zC BK168.out 0).trans rfl; have hcz39_1 : w37.cell? ⟨gb168, 1, none⟩ = some (.int .u64 0) := (zC BK168.out 1).trans rfl; have hcz39_2 : w37.cell? ⟨gb168, 2, none⟩ = some (.int .u32 0) := (zC BK168.out 2).trans rfl; have hfz39_0 := zF BK168.out 0; have hfz39_1 := zF BK168.out 1; have hfz39_2 := zF BK168.out 2))
           have n0_ : Aside0 ((((w37.setCell ⟨gb168, 0, none⟩ (.int .u32 t164)).setCell ⟨gb168, 1, none⟩ (.int .u64 t165)).setCell ⟨gb168, 2, none⟩ (.int .u32 t166)).heap[gb163]? = some (.cells #[.int .u32 0, .int .u64 0, .int .u32 0] 25 (0, 0))) := ⟨by (with_reducible repeat (first | refine zN ?_ _ | refine zD ?_ | refine zA ?_ _)); refine blk_far ?_ NB163_168.out _; (with_reducible repeat (first | refine zN ?_ _ | refine zD ?_ | refine zA ?_ _)); refine blk_far ?_ NB163_168.out _; (with_reducible repeat (first | refine zN ?_ _ | refine zD ?_ | refine zA ?_ _)); refine blk_far ?_ NB163_168.out _; (with_reducible repeat (first | refine zN ?_ _ | refine zD ?_ | refine zA ?_ _)); exact BK163.out⟩
           have n1_ : Aside0 ((((w37.setCell ⟨gb168, 0, none⟩ (.int .u32 t164)).setCell ⟨gb168, 1, none⟩ (.int .u64 t165)).setCell ⟨gb168, 2, none⟩ (.int .u32 t166)).heap[gb168]? = some (.cells #[.int .u32 t164, .int .u64 t165, .int .u32 t166] 25 (0, 0))) := ⟨by (with_reducible repeat (first | refine zN ?_ _ | refine zD ?_ | refine zA ?_ _)); refine blk_put (cs := #[.int .u32 t164, .int .u64 t165, .int .u32 0]) ?_ 2 _ rfl; (with_reducible repeat (first | refine zN ?_ _ | refine zD ?_ | refine zA ?_ _)); refine blk_put (cs := #[.int .u32 t164, .int .u64 0, .int .u32 0]) ?_ 1 _ rfl; (with_reducible repeat (first | refine zN ?_ _ | refine zD ?_ | refine zA ?_ _)); refine blk_put (cs := #[.int .u32 0, .int .u64 0, .int .u32 0]) ?_ 0 _ rfl; (with_reducible repeat (first | refine zN ?_ _ | refine zD ?_ | refine zA ?_ _)); exact BK168.out⟩
           have n2_ : Aside0 (Below w.heap.size w (((w37.setCell ⟨gb168, 0, none⟩ (.int .u32 t164)).setCell ⟨gb168, 1, none⟩ (.int .u64 t165)).setCell ⟨gb168, 2, none⟩ (.int .u32 t166))) := ⟨by repeat (first | (with_reducible first | exact HB.out | apply zL | apply zP | apply zW | refine zS ?_ GE163.out | refine zS ?_ GE168.out) | exact HB.out)⟩
           (try clear BK163)
           (try clear BK168)
           (try clear HB)
           generalize (((w37.setCell ⟨gb168, 0, none⟩ (.int .u32 t164)).setCell ⟨gb168, 1, none⟩ (.int .u64 t165)).setCell ⟨gb168, 2, none⟩ (.int .u32 t166)) = w40 at n0_ n1_ n2_ ⊢
           have BK163 := n0_
           have BK168 := n1_
           have HB := n2_
           clear n0_ n1_ n2_
           have n0_ := zM (zD BK163.out)
           have n1_ := zM (zD BK168.out)
           have n2_ := zM (zW HB.out)
           clear BK163
           clear BK168
           clear HB
           have BK163 := n0_
           have BK168 := n1_
           have HB := n2_
           clear n0_ n1_ n2_
           refine start_ (n := 15) (S := fun w' => w'.cell? ⟨gb168, 0, none⟩ = some (.int .u32 t164) ∧ w'.cell? ⟨gb168, 1, none⟩ = some (.int .u64 t165) ∧ w'.cell? ⟨gb168, 2, none⟩ = some (.int .u32 t166)) (ds := []) zb5_0 (by kernel_rfl) rfl rfl ⟨(zC BK168.out 0).trans rfl, (zC BK168.out 1).trans rfl, (zC BK168.out 2).trans rfl⟩ (fun hHeld => ?_); refine with_tabW block_Get.tab4 block_Get.bits4 (fun HT_ HW_ => ?_)
           generalize w40.drew = w41 at BK163 BK168 HB hHeld ⊢
           refine pure_ (i := 0) (N := some 23) (v := ?_) (a' := ?_) zb5_1 rfl rfl (any_of HT_.out (by kernel_rfl)) (fun _ _ _ h => h) (Or.inl ⟨by rfl, ?_⟩) ?_ ?_
           rotate_left
           ·intro w'
            go_simp
            with_reducible rfl
           rotate_left
           ·simp only [Act.put, zT, zZ, zU, i64_w, i32_w]
            rfl
           refine pure_ (i := 1) (N := some 24) (v := ?_) (a' := ?_) zb5_2 rfl rfl (any_of HT_.out (by kernel_rfl)) (fun _ _ _ h => h) (Or.inl ⟨by rfl, ?_⟩) ?_ ?_
           rotate_left
           ·intro w'
            go_simp
            with_reducible rfl
           rotate_left
           ·simp only [Act.put, zT, zZ, zU, i64_w, i32_w]
            rfl
           refine pure_ (i := 4) (N := some 27) (v := ?_) (a' := ?_) zb5_3 rfl rfl (any_of HT_.out (by kernel_rfl)) (fun _ _ _ h => h) (Or.inl ⟨by rfl, ?_⟩) ?_ ?_
           rotate_left
           ·intro w'
            go_simp
            with_reducible rfl
           rotate_left
           ·simp only [Act.put, zT, zZ, zU, i64_w, i32_w]
            rfl
           refine pure_ (i := 7) (N := some 30) (v := ?_) (a' := ?_) zb5_4 rfl rfl (any_of HT_.out (by kernel_rfl)) (fun _ _ _ h => h) (Or.inl ⟨by rfl, ?_⟩) ?_ ?_
           rotate_left
           ·intro w'
            go_simp
            with_reducible rfl
           rotate_left
           ·simp only [Act.put, zT, zZ, zU, i64_w, i32_w]
            rfl
           refine pure_ (i := 8) (N := some 31) (v := ?_) (a' := ?_) zb5_5 rfl rfl (any_of HT_.out (by kernel_rfl)) (fun _ _ _ h => h) (Or.inl ⟨by rfl, ?_⟩) ?_ ?_
           rotate_left
           ·intro w'
            go_simp
            with_reducible rfl
           rotate_left
           ·simp only [Act.put, zT, zZ, zU, i64_w, i32_w]
            rfl
           refine take_ (i := 2) (N := some 25) (v := ?_) (a' := ?_) zb5_6 rfl rfl (take_ofW HT_.out HW_.out (by kernel_rfl)) (fun _ _ _ h => h) (Or.inl ⟨by rfl, ?_⟩) hHeld ?_ ?_
           rotate_left
           ·rintro w' ⟨s0, s1, s2⟩
            go_simp
            with_reducible rfl
           rotate_left
           ·simp only [Act.put, zT, zZ, zU, i64_w, i32_w]
            rfl
           refine take_ (i := 5) (N := some 28) (v := ?_) (a' := ?_) zb5_7 rfl rfl (take_ofW HT_.out HW_.out (by kernel_rfl)) (fun _ _ _ h => h) (Or.inl ⟨by rfl, ?_⟩) hHeld ?_ ?_
           rotate_left
           ·rintro w' ⟨s0, s1, s2⟩
            go_simp
            with_reducible rfl
           rotate_left
           ·simp only [Act.put, zT, zZ, zU, i64_w, i32_w]
            rfl
           refine one_ (i := 3) (N := some 26) zb5_8 rfl rfl (one_of HT_.out (by kernel_rfl)) (by decide) (fun K hK => ?_)
           refine goes_ Tryd.func18 (by kernel_rfl) rfl #[.string a0, .int .u32 t164] (by rfl) rfl rfl (by (try simp only [zY, List.map_cons, List.map_nil]); first | done | rfl | (simp only [zV, zX]; rfl)) ?_
           with_reducible refine (keys_Of.calls k a0 t164 t169 t170 _ ?side1 A6.out).mono ?_
           (case side1 => exact Go.Proofs.YtgbhjkkfleeodaaDoor.Sha.SL.below HG_.out (by repeat (first | (with_reducible first | exact HB.out | apply zL | apply zP | apply zW | refine zS ?_ GE163.out | refine zS ?_ GE168.out) | exact HB.out)))
           rintro e w42 ⟨rfl, hb⟩
           refine ⟨_, rfl, ?_⟩
           have n0_ := zM (zB (g := gb163) (o := .cells #[.int .u32 0, .int .u64 0, .int .u32 0] 25 (0, 0)) (by (with_reducible repeat (first | refine zN ?_ _ | refine zD ?_ | refine zA ?_ _)); exact BK163.out) hb)
           have n1_ := zM (zB (g := gb168) (o := .cells #[.int .u32 t164, .int .u64 t165, .int .u32 t166] 25 (0, 0)) (by (with_reducible repeat (first | refine zN ?_ _ | refine zD ?_ | refine zA ?_ _)); exact BK168.out) hb)
           have n2_ := zM (below_step (by repeat (first | (with_reducible first | exact HB.out | apply zL | apply zP | apply zW | refine zS ?_ GE163.out | refine zS ?_ GE168.out) | exact HB.out)) hb)
           clear BK163
           clear BK168
           clear HB
           have BK163 := n0_
           have BK168 := n1_
           have HB := n2_
           clear n0_ n1_ n2_
           (try clear hb)
           (try clear hb2)
           (try clear hk)
           (try clear hi)
           refine hK.out _ _ ⟨(zC BK168.out 0).trans rfl, (zC BK168.out 1).trans rfl, (zC BK168.out 2).trans rfl⟩ (fun hHeld => ?_)
           clear hK K
           refine norm_ (a' := ?_) ?_ ?_
           rotate_left
           ·show Act.put _ (some 26) _ = _
            simp only [Act.put, zT, zZ, zU, i64_w, i32_w]
            rfl
           refine one_ (i := 6) (N := some 29) zb5_9 rfl rfl (one_of HT_.out (by kernel_rfl)) (by decide) (fun K hK => ?_)
           refine goes_ Tryd.func16 (by kernel_rfl) rfl #[.agg #[.int .u32 t164, .int .u64 t165, .int .u32 t166]] (by rfl) rfl rfl (by (try simp only [zY, List.map_cons, List.map_nil]); first | done | rfl | (simp only [zV, zX]; rfl)) ?_
           with_reducible refine (block_nonce.calls t164 t165 t166 t171 _ A7.out).mono ?_
           rintro e w43 ⟨rfl, hb⟩
           refine ⟨_, rfl, ?_⟩
           have n0_ := zM (zB (g := gb163) (o := .cells #[.int .u32 0, .int .u64 0, .int .u32 0] 25 (0, 0)) (by (with_reducible repeat (first | refine zN ?_ _ | refine zD ?_ | refine zA ?_ _)); exact BK163.out) hb)
           have n1_ := zM (zB (g := gb168) (o := .cells #[.int .u32 t164, .int .u64 t165, .int .u32 t166] 25 (0, 0)) (by (with_reducible repeat (first | refine zN ?_ _ | refine zD ?_ | refine zA ?_ _)); exact BK168.out) hb)
           have n2_ := zM (below_step (by repeat (first | (with_reducible first | exact HB.out | apply zL | apply zP | apply zW | refine zS ?_ GE163.out | refine zS ?_ GE168.out) | exact HB.out)) hb)
           clear BK163
           clear BK168
           clear HB
           have BK163 := n0_
           have BK168 := n1_
           have HB := n2_
           clear n0_ n1_ n2_
           (try clear hb)
           (try clear hb2)
           (try clear hk)
           (try clear hi)
           refine hK.out _ _ ⟨(zC BK168.out 0).trans rfl, (zC BK168.out 1).trans rfl, (zC BK168.out 2).trans rfl⟩ (fun hHeld => ?_)
           clear hK K
           refine norm_ (a' := ?_) ?_ ?_
           rotate_left
           ·show Act.put _ (some 29) _ = _
            simp only [Act.put, zT, zZ, zU, i64_w, i32_w]
            rfl
           refine one_ (i := 9) (N := some 32) zb5_10 rfl rfl (one_of HT_.out (by kernel_rfl)) (by decide) (fun K hK => ?_)
           refine goes_ Tryd.func19 (by kernel_rfl) rfl #[.agg #[.string t169, .string t170], .int .i64 a1, .string t171, .string (a2.extract 16 a2.size)] (by rfl) rfl rfl (by (try simp only [zY, List.map_cons, List.map_nil]); first | done | rfl | (simp only [zV, zX]; rfl)) ?_
           with_reducible refine (seal_Get.calls k t169 t170 a1 t171 (a2.extract 16 a2.size) t172 t173 _ ?side1 A9.out).mono ?_
           (case side1 => exact Go.Proofs.YtgbhjkkfleeodaaDoor.Sha.SL.below HG_.out (by repeat (first | (with_reducible first | exact HB.out | apply zL | apply zP | apply zW | refine zS ?_ GE163.out | refine zS ?_ GE168.out) | exact HB.out)))
           rintro e w44 ⟨rfl, hb⟩
           refine ⟨_, rfl, ?_⟩
           have n0_ := zM (zB (g := gb163) (o := .cells #[.int .u32 0, .int .u64 0, .int .u32 0] 25 (0, 0)) (by (with_reducible repeat (first | refine zN ?_ _ | refine zD ?_ | refine zA ?_ _)); exact BK163.out) hb)
           have n1_ := zM (zB (g := gb168) (o := .cells #[.int .u32 t164, .int .u64 t165, .int .u32 t166] 25 (0, 0)) (by (with_reducible repeat (first | refine zN ?_ _ | refine zD ?_ | refine zA ?_ _)); exact BK168.out) hb)
           have n2_ := zM (below_step (by repeat (first | (with_reducible first | exact HB.out | apply zL | apply zP | apply zW | refine zS ?_ GE163.out | refine zS ?_ GE168.out) | exact HB.out)) hb)
           clear BK163
           clear BK168
           clear HB
           have BK163 := n0_
           have BK168 := n1_
           have HB := n2_
           clear n0_ n1_ n2_
           (try clear hb)
           (try clear hb2)
           (try clear hk)
           (try clear hi)
           refine hK.out _ _ ⟨(zC BK168.out 0).trans rfl, (zC BK168.out 1).trans rfl, (zC BK168.out 2).trans rfl⟩ (fun hHeld => ?_)
           clear hK K
           refine norm_ (a' := ?_) ?_ ?_
           rotate_left
           ·show Act.put _ (some 32) _ = _
            simp only [Act.put, zT, zZ, zU, i64_w, i32_w]
            rfl
           refine pure_ (i := 10) (N := some 22) (v := ?_) (a' := ?_) zb5_11 rfl rfl (any_of HT_.out (by kernel_rfl)) (fun _ _ _ h => h) (Or.inl ⟨by rfl, ?_⟩) ?_ ?_
           rotate_left
           ·intro w'
            go_simp
            with_reducible rfl
           rotate_left
           ·simp only [Act.put, zT, zZ, zU, i64_w, i32_w]
            rfl
           refine pure_ (i := 11) (N := some 33) (v := ?_) (a' := ?_) zb5_12 rfl rfl (any_of HT_.out (by kernel_rfl)) (fun _ _ _ h => h) (Or.inl ⟨by rfl, ?_⟩) ?_ ?_
           rotate_left
           ·intro w'
            go_simp
            with_reducible rfl
           rotate_left
           ·simp only [Act.put, zT, zZ, zU, i64_w, i32_w]
            rfl
           refine pure_ (i := 12) (N := some 34) (v := ?_) (a' := ?_) zb5_13 rfl rfl (any_of HT_.out (by kernel_rfl)) (fun _ _ _ h => h) (Or.inl ⟨by rfl, ?_⟩) ?_ ?_
           rotate_left
           ·intro w'
            go_simp
            with_reducible rfl
           rotate_left
           ·simp only [Act.put, zT, zZ, zU, i64_w, i32_w]
            rfl
           refine pure_ (i := 13) (N := some 11) (v := ?_) (a' := ?_) zb5_14 rfl rfl (any_of HT_.out (by kernel_rfl)) (fun _ _ _ h => h) (Or.inl ⟨by rfl, ?_⟩) ?_ ?_
           rotate_left
           ·intro w'
            go_simp
            with_reducible rfl
           rotate_left
           ·simp only [Act.put, zT, zZ, zU, i64_w, i32_w]
            rfl
           refine pure_ (i := 14) (N := some 10) (v := ?_) (a' := ?_) zb5_15 rfl rfl (any_of HT_.out (by kernel_rfl)) (fun _ _ _ h => h) (Or.inl ⟨by rfl, ?_⟩) ?_ ?_
           rotate_left
           ·intro w'
            go_simp
            with_reducible rfl
           rotate_left
           ·simp only [Act.put, zT, zZ, zU, i64_w, i32_w]
            rfl
           refine done_ (done_of HT_.out (by kernel_rfl)) ?_
           try go_wp2
           have n0_ := zM (zD BK163.out)
           have n1_ := zM (zD BK168.out)
           have n2_ := zM (zW HB.out)
           clear BK163
           clear BK168
           clear HB
           have BK163 := n0_
           have BK168 := n1_
           have HB := n2_
           clear n0_ n1_ n2_
           have p12 : 0 ≤ (0 : Int) := (by omega)
           have q12 : 0 < t172.size := (by have : (0 : Int) < (t172.size : Int) := of_decide_eq_true (by first | (with_reducible assumption) | assumption); omega)
           have hx12 : ∀ h : 0 < t172.size, ((t172[0]'h).toNat : Int) = bt t172 0 := bt_at t172 0
           clear p12
           have qi12 : (0 < (t172.size : Int)) = True := eq_true (of_decide_eq_true (by first | (with_reducible assumption) | assumption))
           replace q12 := eq_true q12
           have p14 : 0 ≤ (1 : Int) := (by omega)
           have q14 : 1 < t172.size := (by have : (1 : Int) < (t172.size : Int) := of_decide_eq_true (by first | (with_reducible assumption) | assumption); omega)
           have hx14 : ∀ h : 1 < t172.size, ((t172[1]'h).toNat : Int) = bt t172 1 := bt_at t172 1
           clear p14
           have qi14 : (1 < (t172.size : Int)) = True := eq_true (of_decide_eq_true (by first | (with_reducible assumption) | assumption))
           replace q14 := eq_true q14
           refine start_ (n := 9) (S := fun w' => True) (ds := []) zb5_16 (by kernel_rfl) rfl rfl trivial (fun hHeld => ?_); refine with_tabW block_Get.tab7 block_Get.bits7 (fun HT_ HW_ => ?_)
           generalize w44.drew = w45 at BK163 BK168 HB hHeld ⊢
           refine pure_ (i := 0) (N := some 39) (v := ?_) (a' := ?_) zb5_17 rfl rfl (any_of HT_.out (by kernel_rfl)) (fun _ _ _ h => h) (Or.inl ⟨by rfl, ?_⟩) ?_ ?_
           rotate_left
           ·intro w'
            go_simp
            with_reducible rfl
           rotate_left
           ·simp only [Act.put, zT, zZ, zU, i64_w, i32_w]
            rfl
           refine pure_ (i := 4) (N := some 43) (v := ?_) (a' := ?_) zb5_18 rfl rfl (any_of HT_.out (by kernel_rfl)) (fun _ _ _ h => h) (Or.inl ⟨by rfl, ?_⟩) ?_ ?_
           rotate_left
           ·intro w'
            go_simp
            with_reducible rfl
           rotate_left
           ·simp only [Act.put, zT, zZ, zU, i64_w, i32_w]
            rfl
           refine take_ (i := 1) (N := some 40) (v := ?_) (a' := ?_) zb5_19 rfl rfl (take_ofW HT_.out HW_.out (by kernel_rfl)) (fun _ _ _ h => h) (Or.inl ⟨by rfl, ?_⟩) hHeld ?_ ?_
           rotate_left
           ·intro w' _
            go_simp
            with_reducible rfl
           rotate_left
           ·simp only [Act.put, zT, zZ, zU, i64_w, i32_w]
            rfl
           refine pure_ (i := 2) (N := some 41) (v := ?_) (a' := ?_) zb5_20 rfl rfl (any_of HT_.out (by kernel_rfl)) (fun _ _ _ h => h) (Or.inl ⟨by rfl, ?_⟩) ?_ ?_
           rotate_left
           ·intro w'
            go_simp
            with_reducible rfl
           rotate_left
           ·simp only [Act.put, zT, zZ, zU, i64_w, i32_w]
            rfl
           refine pure_ (i := 3) (N := some 42) (v := ?_) (a' := ?_) #[true, true, true, true, true, false, false, false, false] rfl rfl (any_of HT_.out (by kernel_rfl)) (fun _ _ _ h => h) (Or.inl ⟨by rfl, ?_⟩) ?_ ?_
           rotate_left
           ·intro w'
            go_simp
            with_reducible rfl
           rotate_left
           ·simp only [Act.put, zT, zZ, zU, i64_w, i32_w]
            rfl
           refine take_ (i := 5) (N := some 44) (v := ?_) (a' := ?_) #[true, true, true, true, true, true, false, false, false] rfl rfl (take_ofW HT_.out HW_.out (by kernel_rfl)) (fun _ _ _ h => h) (Or.inl ⟨by rfl, ?_⟩) hHeld ?_ ?_
           rotate_left
           ·intro w' _
            go_simp
            with_reducible rfl
           rotate_left
           ·simp only [Act.put, zT, zZ, zU, i64_w, i32_w]
            rfl
           refine pure_ (i := 6) (N := some 45) (v := ?_) (a' := ?_) #[true, true, true, true, true, true, true, false, false] rfl rfl (any_of HT_.out (by kernel_rfl)) (fun _ _ _ h => h) (Or.inl ⟨by rfl, ?_⟩) ?_ ?_
           rotate_left
           ·intro w'
            go_simp
            with_reducible rfl
           rotate_left
           ·simp only [Act.put, zT, zZ, zU, i64_w, i32_w]
            rfl
           refine pure_ (i := 7) (N := some 46) (v := ?_) (a' := ?_) #[true, true, true, true, true, true, true, true, false] rfl rfl (any_of HT_.out (by kernel_rfl)) (fun _ _ _ h => h) (Or.inl ⟨by rfl, ?_⟩) ?_ ?_
           rotate_left
           ·intro w'
            go_simp
            with_reducible rfl
           rotate_left
           ·simp only [Act.put, zT, zZ, zU, i64_w, i32_w]
            rfl
           refine pure_ (i := 8) (N := some 12) (v := ?_) (a' := ?_) #[true, true, true, true, true, true, true, true, true] rfl rfl (any_of HT_.out (by kernel_rfl)) (fun _ _ _ h => h) (Or.inl ⟨by rfl, ?_⟩) ?_ ?_
           rotate_left
           ·intro w'
            go_simp
            with_reducible rfl
           rotate_left
           ·simp only [Act.put, zT, zZ, zU, i64_w, i32_w]
            rfl
           refine done_ (done_of HT_.out (by kernel_rfl)) ?_
           try go_wp2_with (first | (go_at_call 20; (with_reducible refine (strings_Trim.calls (t172.extract ((ji28) : Int).toNat t172.size) (⟨#[0]⟩ : ByteArray) t174 _ A31.out).mono ?_); rintro e w' ⟨rfl, ⟨nd, rfl⟩⟩; (try (rw [drewN_self w45]; generalize hq_ : World.drewN w45 _ = w45; have n0_ : Aside0 (w45.heap[gb163]? = some (.cells #[.int .u32 0, .int .u64 0, .int .u32 0] 25 (0, 0))) := ⟨by rw [← hq_]; exact (by (with_reducible repeat (first | refine zN ?_ _ | refine zD ?_ | refine zA ?_ _)); exact BK163.out)⟩; have n1_ : Aside0 (w45.heap[gb168]? = some (.cells #[.int .u32 t164, .int .u64 t165, .int .u32 t166] 25 (0, 0))) := ⟨by rw [← hq_]; exact (by (with_reducible repeat (first | refine zN ?_ _ | refine zD ?_ | refine zA ?_ _)); exact BK168.out)⟩; have n2_ : Aside0 (Below w.heap.size w w45) := ⟨by rw [← hq_]; exact (by repeat (first | (with_reducible first | exact HB.out | apply zL | apply zP | apply zW | refine zS ?_ GE163.out | refine zS ?_ GE168.out) | exact HB.out))⟩; clear BK163 BK168 HB hq_; have BK163 := n0_; have BK168 := n1_; have HB := n2_; clear n0_ n1_ n2_))))
           have n0_ := zM (zD BK163.out)
           have n1_ := zM (zD BK168.out)
           have n2_ := zM (zW HB.out)
           clear BK163
           clear BK168
           clear HB
           have BK163 := n0_
           have BK168 := n1_
           have HB := n2_
           clear n0_ n1_ n2_
           refine start_ (n := 8) (S := fun w' => w'.cell? ⟨gb168, 0, none⟩ = some (.int .u32 t164) ∧ w'.cell? ⟨gb168, 1, none⟩ = some (.int .u64 t165) ∧ w'.cell? ⟨gb168, 2, none⟩ = some (.int .u32 t166)) (ds := []) #[false, false, false, false, false, false, false, false] (by kernel_rfl) rfl rfl ⟨(zC BK168.out 0).trans rfl, (zC BK168.out 1).trans rfl, (zC BK168.out 2).trans rfl⟩ (fun hHeld => ?_); refine with_tabW block_Get.tab10 block_Get.bits10 (fun HT_ HW_ => ?_)
           generalize w45.drew = w46 at BK163 BK168 HB hHeld ⊢
           refine pure_ (i := 1) (N := some 59) (v := ?_) (a' := ?_) #[false, true, false, false, false, false, false, false] rfl rfl (any_of HT_.out (by kernel_rfl)) (fun _ _ _ h => h) (Or.inl ⟨by rfl, ?_⟩) ?_ ?_
           rotate_left
           ·intro w'
            go_simp
            with_reducible rfl
           rotate_left
           ·simp only [Act.put, zT, zZ, zU, i64_w, i32_w]
            rfl
           refine pure_ (i := 2) (N := some 60) (v := ?_) (a' := ?_) #[false, true, true, false, false, false, false, false] rfl rfl (any_of HT_.out (by kernel_rfl)) (fun _ _ _ h => h) (Or.inl ⟨by rfl, ?_⟩) ?_ ?_
           rotate_left
           ·intro w'
            go_simp
            with_reducible rfl
           rotate_left
           ·simp only [Act.put, zT, zZ, zU, i64_w, i32_w]
            rfl
           refine pure_ (i := 3) (N := some 61) (v := ?_) (a' := ?_) #[false, true, true, true, false, false, false, false] rfl rfl (any_of HT_.out (by kernel_rfl)) (fun _ _ _ h => h) (Or.inl ⟨by rfl, ?_⟩) ?_ ?_
           rotate_left
           ·intro w'
            go_simp
            with_reducible rfl
           rotate_left
           ·simp only [Act.put, zT, zZ, zU, i64_w, i32_w]
            rfl
           refine pure_ (i := 4) (N := some 62) (v := ?_) (a' := ?_) #[false, true, true, true, true, false, false, false] rfl rfl (any_of HT_.out (by kernel_rfl)) (fun _ _ _ h => h) (Or.inl ⟨by rfl, ?_⟩) ?_ ?_
           rotate_left
           ·intro w'
            go_simp
            with_reducible rfl
           rotate_left
           ·simp only [Act.put, zT, zZ, zU, i64_w, i32_w]
            rfl
           refine take_ (i := 0) (N := some 58) (v := ?_) (a' := ?_) #[true, true, true, true, true, false, false, false] rfl rfl (take_ofW HT_.out HW_.out (by kernel_rfl)) (fun _ _ _ h => h) (Or.inl ⟨by rfl, ?_⟩) hHeld ?_ ?_
           rotate_left
           ·rintro w' ⟨s0, s1, s2⟩
            go_simp
            with_reducible rfl
           rotate_left
           ·simp only [Act.put, zT, zZ, zU, i64_w, i32_w]
            rfl
           refine one_ (i := 5) (N := none) #[true, true, true, true, true, true, false, false] rfl rfl (one_of HT_.out (by kernel_rfl)) (by decide) (fun K hK => ?_)
           have hs47 : w46.cell? ⟨gb163, 0, none⟩ = some (.int .u32 0) := (zC BK163.out 0).trans rfl
           have hfs47 := zF BK163.out 0
           have hns47_1 := NB168_163.out
           have hms47_1 := NB163_168.out
           have hs48 : w46.cell? ⟨gb163, 1, none⟩ = some (.int .u64 0) := (zC BK163.out 1).trans rfl
           have hfs48 := zF BK163.out 1
           have hns48_1 := NB168_163.out
           have hms48_1 := NB163_168.out
           have hs49 : w46.cell? ⟨gb163, 2, none⟩ = some (.int .u32 0) := (zC BK163.out 2).trans rfl
           have hfs49 := zF BK163.out 2
           have hns49_1 := NB168_163.out
           have hms49_1 := NB163_168.out
           refine skip_ (w1 := ?_) (by rfl) rfl ?_ ?_
           rotate_left
           ·go_simp
            rfl
           refine hK.out _ _ ⟨((cell_far (p := ⟨gb163, _, none⟩) NB168_163.out _).trans (((cell_far (p := ⟨gb163, _, none⟩) NB168_163.out _).trans (((cell_far (p := ⟨gb163, _, none⟩) NB168_163.out _).trans (hHeld.1)))))), ((cell_far (p := ⟨gb163, _, none⟩) NB168_163.out _).trans (((cell_far (p := ⟨gb163, _, none⟩) NB168_163.out _).trans (((cell_far (p := ⟨gb163, _, none⟩) NB168_163.out _).trans (hHeld.2.1)))))), ((cell_far (p := ⟨gb163, _, none⟩) NB168_163.out _).trans (((cell_far (p := ⟨gb163, _, none⟩) NB168_163.out _).trans (((cell_far (p := ⟨gb163, _, none⟩) NB168_163.out _).trans (hHeld.2.2))))))⟩ (fun hHeld => ?_)
           clear hK K
           refine pure_ (i := 6) (N := some 7) (v := ?_) (a' := ?_) #[true, true, true, true, true, true, true, false] rfl rfl (any_of HT_.out (by kernel_rfl)) (fun _ _ _ h => h) (Or.inl ⟨by rfl, ?_⟩) ?_ ?_
           rotate_left
           ·intro w'
            go_simp
            with_reducible rfl
           rotate_left
           ·simp only [Act.put, zT, zZ, zU, i64_w, i32_w]
            rfl
           refine pure_ (i := 7) (N := some 8) (v := ?_) (a' := ?_) #[true, true, true, true, true, true, true, true] rfl rfl (any_of HT_.out (by kernel_rfl)) (fun _ _ _ h => h) (Or.inl ⟨by rfl, ?_⟩) ?_ ?_
           rotate_left
           ·intro w'
            go_simp
            with_reducible rfl
           rotate_left
           ·simp only [Act.put, zT, zZ, zU, i64_w, i32_w]
            rfl
           refine done_ (done_of HT_.out (by kernel_rfl)) ?_
           try go_wp2
           refine bodyPost_ret (results_ctt rfl _ _ gb163 25 #[.int .u32 t164, .int .u64 t165, .int .u32 t166] (0, 0) _ rfl (by (with_reducible repeat (first | refine zN ?_ _ | refine zD ?_ | refine zA ?_ _)); refine blk_put (cs := #[.int .u32 t164, .int .u64 t165, .int .u32 0]) ?_ 2 _ rfl; (with_reducible repeat (first | refine zN ?_ _ | refine zD ?_ | refine zA ?_ _)); refine blk_put (cs := #[.int .u32 t164, .int .u64 0, .int .u32 0]) ?_ 1 _ rfl; (with_reducible repeat (first | refine zN ?_ _ | refine zD ?_ | refine zA ?_ _)); refine blk_put (cs := #[.int .u32 0, .int .u64 0, .int .u32 0]) ?_ 0 _ rfl; (with_reducible repeat (first | refine zN ?_ _ | refine zD ?_ | refine zA ?_ _)); exact BK163.out) Tryd.underlying25 rfl (by kernel_rfl)) rfl ?_
           exact ⟨by first | rfl | (simp [errW_none, errW_some] <;> rfl) | (simp only [← hji28]; first | rfl | (simp [errW_none, errW_some] <;> rfl)) | (simp [*, errW_none, errW_some] <;> rfl), by repeat (first | (with_reducible first | exact HB.out | apply zL | apply zP | apply zW | refine zS ?_ GE163.out | refine zS ?_ GE168.out) | exact HB.out)⟩
          ·rw [if_neg c33] at H
           exact absurd H (by simp)
         ·rw [if_neg c32] at H
          have c32f : t174.toList.isEmpty = false := by first | (rw [c32]; rfl) | (cases hh_ : t174.toList with | nil => exact absurd hh_ c32 | cons _ _ => rfl)
          have c32b0 : (t174.toList == ([] : List UInt8)) = false := beq_eq_false_iff_ne.mpr c32
          have c32b1 : (t174.toList != ([] : List UInt8)) = true := bne_iff_ne.mpr c32
          simp only [Option.some.injEq, Prod.mk.injEq] at H
          obtain ⟨rfl, rfl, rfl, rfl, rfl⟩ := H
          go_enter Tryd.func8, Tryd.ntmps8
          try go_wp2_with (first | ((with_reducible refine gate_dst (N := 6) rfl ?_); refine box_event ?hg (N := 6) ?hd (cs := #[.int .u32 0, .int .u64 0, .int .u32 0]) (t := 25) ?hr ?_; (case hd => rfl); (case hg => rfl); (case hr => first | (go_simp; done) | (go_simp; rfl)); intro gb163 hg w50 hbox hb; have n0_ := zM (below_step (by repeat (first | (with_reducible first | exact HB.out | apply zL | apply zP | apply zW) | exact HB.out)) hb); have n1_ := zM (hbox); have n2_ := zM ((by rw [hg]; exact (below_size (by repeat (first | (with_reducible first | exact HB.out | apply zL | apply zP | apply zW) | exact HB.out))) : w.heap.size ≤ gb163)); have n3_ := zM ((by rw [hg]; exact (below_size (by repeat (first | (with_reducible first | exact HB.out | apply zL | apply zP | apply zW) | exact HB.out))) : w.heap.size ≤ gb163)); clear HB; have HB := n0_; have BK163 := n1_; have GW163 := n2_; have GE163 := n3_; clear n0_ n1_ n2_ n3_; clear hb hbox hg) | ((with_reducible refine gate_callee (f := 9) rfl ?_); refine goesL_ (some 15) rfl rfl Tryd.func9 (by kernel_rfl) rfl #[.string a2] rfl (by (try simp only [zY, List.map_cons, List.map_nil]); first | done | rfl | (simp only [zV, zX]; rfl)) ?_; (with_reducible refine (block_Head.calls a2 t164 t165 t166 t167 _ A4.out).mono ?_); rintro e w51 ⟨rfl, hb⟩; refine ⟨_, rfl, ?_⟩; have n0_ := zM (zB (g := gb163) (o := .cells #[.int .u32 0, .int .u64 0, .int .u32 0] 25 (0, 0)) (by (with_reducible repeat (first | refine zN ?_ _ | refine zD ?_ | refine zA ?_ _)); exact BK163.out) hb); have n1_ := zM (below_step (by repeat (first | (with_reducible first | exact HB.out | apply zL | apply zP | apply zW | refine zS ?_ GE163.out) | exact HB.out)) hb); clear BK163; clear HB; have BK163 := n0_; have HB := n1_; clear n0_ n1_; (try clear hb); (try clear hb2); (try clear hk); (try clear hi)) | ((with_reducible refine gate_dst (N := 9) rfl ?_); refine box_event ?hg (N := 9) ?hd (cs := #[.int .u32 0, .int .u64 0, .int .u32 0]) (t := 25) ?hr ?_; (case hd => rfl); (case hg => rfl); (case hr => first | (go_simp; done) | (go_simp; rfl)); intro gb168 hg w52 hbox hb; have n0_ := zM (zB (g := gb163) (o := .cells #[.int .u32 0, .int .u64 0, .int .u32 0] 25 (0, 0)) (by (with_reducible repeat (first | refine zN ?_ _ | refine zD ?_ | refine zA ?_ _)); exact BK163.out) hb); have n1_ := zM (below_step (by repeat (first | (with_reducible first | exact HB.out | apply zL | apply zP | apply zW | refine zS ?_ GE163.out) | exact HB.out)) hb); have n2_ := zM (hbox); have n3_ := zM ((by rw [hg]; exact (below_size (by repeat (first | (with_reducible first | exact HB.out | apply zL | apply zP | apply zW | refine zS ?_ GE163.out) | exact HB.out))) : w.heap.size ≤ gb168)); have n4_ := zM ((by rw [hg]; exact (below_size (by repeat (first | (with_reducible first | exact HB.out | apply zL | apply zP | apply zW | refine zS ?_ GE163.out) | exact HB.out))) : w.heap.size ≤ gb168)); have n5_ := zM ((by rw [hg]; exact Nat.ne_of_lt (blk_lt (g := gb163) (o := .cells #[.int .u32 0, .int .u64 0, .int .u32 0] 25 (0, 0)) (by (with_reducible repeat (first | refine zN ?_ _ | refine zD ?_ | refine zA ?_ _)); exact BK163.out)) : gb163 ≠ gb168)); have n6_ := zM ((by rw [hg]; exact Nat.ne_of_gt (blk_lt (g := gb163) (o := .cells #[.int .u32 0, .int .u64 0, .int .u32 0] 25 (0, 0)) (by (with_reducible repeat (first | refine zN ?_ _ | refine zD ?_ | refine zA ?_ _)); exact BK163.out)) : gb168 ≠ gb163)); clear BK163; clear HB; have BK163 := n0_; have HB := n1_; have BK168 := n2_; have GW168 := n3_; have GE168 := n4_; have NB163_168 := n5_; have NB168_163 := n6_; clear n0_ n1_ n2_ n3_ n4_ n5_ n6_; clear hb hbox hg; have hnb53 := NB168_163.out; have hnc53 := NB163_168.out; have hcz54_0 : w52.cell? ⟨gb168, 0, none⟩ = some (.int .u32 0) := (zC BK168.out 0).trans rfl; have hcz54_1 : w52.cell? ⟨gb168, 1, none⟩ = some (.int .u64 0) := (zC BK168.out 1).trans rfl; have hcz54_2 : w52.cell? ⟨gb168, 2, none⟩ = some (.int .u32 0) := (zC BK168.out 2).trans rfl; have hfz54_0 := zF BK168.out 0; have hfz54_1 := zF BK168.out 1; have hfz54_2 := zF BK168.out 2))
          have n0_ : Aside0 ((((w52.setCell ⟨gb168, 0, none⟩ (.int .u32 t164)).setCell ⟨gb168, 1, none⟩ (.int .u64 t165)).setCell ⟨gb168, 2, none⟩ (.int .u32 t166)).heap[gb163]? = some (.cells #[.int .u32 0, .int .u64 0, .int .u32 0] 25 (0, 0))) := ⟨by (with_reducible repeat (first | refine zN ?_ _ | refine zD ?_ | refine zA ?_ _)); refine blk_far ?_ NB163_168.out _; (with_reducible repeat (first | refine zN ?_ _ | refine zD ?_ | refine zA ?_ _)); refine blk_far ?_ NB163_168.out _; (with_reducible repeat (first | refine zN ?_ _ | refine zD ?_ | refine zA ?_ _)); refine blk_far ?_ NB163_168.out _; (with_reducible repeat (first | refine zN ?_ _ | refine zD ?_ | refine zA ?_ _)); exact BK163.out⟩
          have n1_ : Aside0 ((((w52.setCell ⟨gb168, 0, none⟩ (.int .u32 t164)).setCell ⟨gb168, 1, none⟩ (.int .u64 t165)).setCell ⟨gb168, 2, none⟩ (.int .u32 t166)).heap[gb168]? = some (.cells #[.int .u32 t164, .int .u64 t165, .int .u32 t166] 25 (0, 0))) := ⟨by (with_reducible repeat (first | refine zN ?_ _ | refine zD ?_ | refine zA ?_ _)); refine blk_put (cs := #[.int .u32 t164, .int .u64 t165, .int .u32 0]) ?_ 2 _ rfl; (with_reducible repeat (first | refine zN ?_ _ | refine zD ?_ | refine zA ?_ _)); refine blk_put (cs := #[.int .u32 t164, .int .u64 0, .int .u32 0]) ?_ 1 _ rfl; (with_reducible repeat (first | refine zN ?_ _ | refine zD ?_ | refine zA ?_ _)); refine blk_put (cs := #[.int .u32 0, .int .u64 0, .int .u32 0]) ?_ 0 _ rfl; (with_reducible repeat (first | refine zN ?_ _ | refine zD ?_ | refine zA ?_ _)); exact BK168.out⟩
          have n2_ : Aside0 (Below w.heap.size w (((w52.setCell ⟨gb168, 0, none⟩ (.int .u32 t164)).setCell ⟨gb168, 1, none⟩ (.int .u64 t165)).setCell ⟨gb168, 2, none⟩ (.int .u32 t166))) := ⟨by repeat (first | (with_reducible first | exact HB.out | apply zL | apply zP | apply zW | refine zS ?_ GE163.out | refine zS ?_ GE168.out) | exact HB.out)⟩
          (try clear BK163)
          (try clear BK168)
          (try clear HB)
          generalize (((w52.setCell ⟨gb168, 0, none⟩ (.int .u32 t164)).setCell ⟨gb168, 1, none⟩ (.int .u64 t165)).setCell ⟨gb168, 2, none⟩ (.int .u32 t166)) = w55 at n0_ n1_ n2_ ⊢
          have BK163 := n0_
          have BK168 := n1_
          have HB := n2_
          clear n0_ n1_ n2_
          have n0_ := zM (zD BK163.out)
          have n1_ := zM (zD BK168.out)
          have n2_ := zM (zW HB.out)
          clear BK163
          clear BK168
          clear HB
          have BK163 := n0_
          have BK168 := n1_
          have HB := n2_
          clear n0_ n1_ n2_
          refine start_ (n := 15) (S := fun w' => w'.cell? ⟨gb168, 0, none⟩ = some (.int .u32 t164) ∧ w'.cell? ⟨gb168, 1, none⟩ = some (.int .u64 t165) ∧ w'.cell? ⟨gb168, 2, none⟩ = some (.int .u32 t166)) (ds := []) zb5_0 (by kernel_rfl) rfl rfl ⟨(zC BK168.out 0).trans rfl, (zC BK168.out 1).trans rfl, (zC BK168.out 2).trans rfl⟩ (fun hHeld => ?_); refine with_tabW block_Get.tab4 block_Get.bits4 (fun HT_ HW_ => ?_)
          generalize w55.drew = w56 at BK163 BK168 HB hHeld ⊢
          refine pure_ (i := 0) (N := some 23) (v := ?_) (a' := ?_) zb5_1 rfl rfl (any_of HT_.out (by kernel_rfl)) (fun _ _ _ h => h) (Or.inl ⟨by rfl, ?_⟩) ?_ ?_
          rotate_left
          ·intro w'
           go_simp
           with_reducible rfl
          rotate_left
          ·simp only [Act.put, zT, zZ, zU, i64_w, i32_w]
           rfl
          refine pure_ (i := 1) (N := some 24) (v := ?_) (a' := ?_) zb5_2 rfl rfl (any_of HT_.out (by kernel_rfl)) (fun _ _ _ h => h) (Or.inl ⟨by rfl, ?_⟩) ?_ ?_
          rotate_left
          ·intro w'
           go_simp
           with_reducible rfl
          rotate_left
          ·simp only [Act.put, zT, zZ, zU, i64_w, i32_w]
           rfl
          refine pure_ (i := 4) (N := some 27) (v := ?_) (a' := ?_) zb5_3 rfl rfl (any_of HT_.out (by kernel_rfl)) (fun _ _ _ h => h) (Or.inl ⟨by rfl, ?_⟩) ?_ ?_
          rotate_left
          ·intro w'
           go_simp
           with_reducible rfl
          rotate_left
          ·simp only [Act.put, zT, zZ, zU, i64_w, i32_w]
           rfl
          refine pure_ (i := 7) (N := some 30) (v := ?_) (a' := ?_) zb5_4 rfl rfl (any_of HT_.out (by kernel_rfl)) (fun _ _ _ h => h) (Or.inl ⟨by rfl, ?_⟩) ?_ ?_
          rotate_left
          ·intro w'
           go_simp
           with_reducible rfl
          rotate_left
          ·simp only [Act.put, zT, zZ, zU, i64_w, i32_w]
           rfl
          refine pure_ (i := 8) (N := some 31) (v := ?_) (a' := ?_) zb5_5 rfl rfl (any_of HT_.out (by kernel_rfl)) (fun _ _ _ h => h) (Or.inl ⟨by rfl, ?_⟩) ?_ ?_
          rotate_left
          ·intro w'
           go_simp
           with_reducible rfl
          rotate_left
          ·simp only [Act.put, zT, zZ, zU, i64_w, i32_w]
           rfl
          refine take_ (i := 2) (N := some 25) (v := ?_) (a' := ?_) zb5_6 rfl rfl (take_ofW HT_.out HW_.out (by kernel_rfl)) (fun _ _ _ h => h) (Or.inl ⟨by rfl, ?_⟩) hHeld ?_ ?_
          rotate_left
          ·rintro w' ⟨s0, s1, s2⟩
           go_simp
           with_reducible rfl
          rotate_left
          ·simp only [Act.put, zT, zZ, zU, i64_w, i32_w]
           rfl
          refine take_ (i := 5) (N := some 28) (v := ?_) (a' := ?_) zb5_7 rfl rfl (take_ofW HT_.out HW_.out (by kernel_rfl)) (fun _ _ _ h => h) (Or.inl ⟨by rfl, ?_⟩) hHeld ?_ ?_
          rotate_left
          ·rintro w' ⟨s0, s1, s2⟩
           go_simp
           with_reducible rfl
          rotate_left
          ·simp only [Act.put, zT, zZ, zU, i64_w, i32_w]
           rfl
          refine one_ (i := 3) (N := some 26) zb5_8 rfl rfl (one_of HT_.out (by kernel_rfl)) (by decide) (fun K hK => ?_)
          refine goes_ Tryd.func18 (by kernel_rfl) rfl #[.string a0, .int .u32 t164] (by rfl) rfl rfl (by (try simp only [zY, List.map_cons, List.map_nil]); first | done | rfl | (simp only [zV, zX]; rfl)) ?_
          with_reducible refine (keys_Of.calls k a0 t164 t169 t170 _ ?side1 A6.out).mono ?_
          (case side1 => exact Go.Proofs.YtgbhjkkfleeodaaDoor.Sha.SL.below HG_.out (by repeat (first | (with_reducible first | exact HB.out | apply zL | apply zP | apply zW | refine zS ?_ GE163.out | refine zS ?_ GE168.out) | exact HB.out)))
          rintro e w57 ⟨rfl, hb⟩
          refine ⟨_, rfl, ?_⟩
          have n0_ := zM (zB (g := gb163) (o := .cells #[.int .u32 0, .int .u64 0, .int .u32 0] 25 (0, 0)) (by (with_reducible repeat (first | refine zN ?_ _ | refine zD ?_ | refine zA ?_ _)); exact BK163.out) hb)
          have n1_ := zM (zB (g := gb168) (o := .cells #[.int .u32 t164, .int .u64 t165, .int .u32 t166] 25 (0, 0)) (by (with_reducible repeat (first | refine zN ?_ _ | refine zD ?_ | refine zA ?_ _)); exact BK168.out) hb)
          have n2_ := zM (below_step (by repeat (first | (with_reducible first | exact HB.out | apply zL | apply zP | apply zW | refine zS ?_ GE163.out | refine zS ?_ GE168.out) | exact HB.out)) hb)
          clear BK163
          clear BK168
          clear HB
          have BK163 := n0_
          have BK168 := n1_
          have HB := n2_
          clear n0_ n1_ n2_
          (try clear hb)
          (try clear hb2)
          (try clear hk)
          (try clear hi)
          refine hK.out _ _ ⟨(zC BK168.out 0).trans rfl, (zC BK168.out 1).trans rfl, (zC BK168.out 2).trans rfl⟩ (fun hHeld => ?_)
          clear hK K
          refine norm_ (a' := ?_) ?_ ?_
          rotate_left
          ·show Act.put _ (some 26) _ = _
           simp only [Act.put, zT, zZ, zU, i64_w, i32_w]
           rfl
          refine one_ (i := 6) (N := some 29) zb5_9 rfl rfl (one_of HT_.out (by kernel_rfl)) (by decide) (fun K hK => ?_)
          refine goes_ Tryd.func16 (by kernel_rfl) rfl #[.agg #[.int .u32 t164, .int .u64 t165, .int .u32 t166]] (by rfl) rfl rfl (by (try simp only [zY, List.map_cons, List.map_nil]); first | done | rfl | (simp only [zV, zX]; rfl)) ?_
          with_reducible refine (block_nonce.calls t164 t165 t166 t171 _ A7.out).mono ?_
          rintro e w58 ⟨rfl, hb⟩
          refine ⟨_, rfl, ?_⟩
          have n0_ := zM (zB (g := gb163) (o := .cells #[.int .u32 0, .int .u64 0, .int .u32 0] 25 (0, 0)) (by (with_reducible repeat (first | refine zN ?_ _ | refine zD ?_ | refine zA ?_ _)); exact BK163.out) hb)
          have n1_ := zM (zB (g := gb168) (o := .cells #[.int .u32 t164, .int .u64 t165, .int .u32 t166] 25 (0, 0)) (by (with_reducible repeat (first | refine zN ?_ _ | refine zD ?_ | refine zA ?_ _)); exact BK168.out) hb)
          have n2_ := zM (below_step (by repeat (first | (with_reducible first | exact HB.out | apply zL | apply zP | apply zW | refine zS ?_ GE163.out | refine zS ?_ GE168.out) | exact HB.out)) hb)
          clear BK163
          clear BK168
          clear HB
          have BK163 := n0_
          have BK168 := n1_
          have HB := n2_
          clear n0_ n1_ n2_
          (try clear hb)
          (try clear hb2)
          (try clear hk)
          (try clear hi)
          refine hK.out _ _ ⟨(zC BK168.out 0).trans rfl, (zC BK168.out 1).trans rfl, (zC BK168.out 2).trans rfl⟩ (fun hHeld => ?_)
          clear hK K
          refine norm_ (a' := ?_) ?_ ?_
          rotate_left
          ·show Act.put _ (some 29) _ = _
           simp only [Act.put, zT, zZ, zU, i64_w, i32_w]
           rfl
          refine one_ (i := 9) (N := some 32) zb5_10 rfl rfl (one_of HT_.out (by kernel_rfl)) (by decide) (fun K hK => ?_)
          refine goes_ Tryd.func19 (by kernel_rfl) rfl #[.agg #[.string t169, .string t170], .int .i64 a1, .string t171, .string (a2.extract 16 a2.size)] (by rfl) rfl rfl (by (try simp only [zY, List.map_cons, List.map_nil]); first | done | rfl | (simp only [zV, zX]; rfl)) ?_
          with_reducible refine (seal_Get.calls k t169 t170 a1 t171 (a2.extract 16 a2.size) t172 t173 _ ?side1 A9.out).mono ?_
          (case side1 => exact Go.Proofs.YtgbhjkkfleeodaaDoor.Sha.SL.below HG_.out (by repeat (first | (with_reducible first | exact HB.out | apply zL | apply zP | apply zW | refine zS ?_ GE163.out | refine zS ?_ GE168.out) | exact HB.out)))
          rintro e w59 ⟨rfl, hb⟩
          refine ⟨_, rfl, ?_⟩
          have n0_ := zM (zB (g := gb163) (o := .cells #[.int .u32 0, .int .u64 0, .int .u32 0] 25 (0, 0)) (by (with_reducible repeat (first | refine zN ?_ _ | refine zD ?_ | refine zA ?_ _)); exact BK163.out) hb)
          have n1_ := zM (zB (g := gb168) (o := .cells #[.int .u32 t164, .int .u64 t165, .int .u32 t166] 25 (0, 0)) (by (with_reducible repeat (first | refine zN ?_ _ | refine zD ?_ | refine zA ?_ _)); exact BK168.out) hb)
          have n2_ := zM (below_step (by repeat (first | (with_reducible first | exact HB.out | apply zL | apply zP | apply zW | refine zS ?_ GE163.out | refine zS ?_ GE168.out) | exact HB.out)) hb)
          clear BK163
          clear BK168
          clear HB
          have BK163 := n0_
          have BK168 := n1_
          have HB := n2_
          clear n0_ n1_ n2_
          (try clear hb)
          (try clear hb2)
          (try clear hk)
          (try clear hi)
          refine hK.out _ _ ⟨(zC BK168.out 0).trans rfl, (zC BK168.out 1).trans rfl, (zC BK168.out 2).trans rfl⟩ (fun hHeld => ?_)
          clear hK K
          refine norm_ (a' := ?_) ?_ ?_
          rotate_left
          ·show Act.put _ (some 32) _ = _
           simp only [Act.put, zT, zZ, zU, i64_w, i32_w]
           rfl
          refine pure_ (i := 10) (N := some 22) (v := ?_) (a' := ?_) zb5_11 rfl rfl (any_of HT_.out (by kernel_rfl)) (fun _ _ _ h => h) (Or.inl ⟨by rfl, ?_⟩) ?_ ?_
          rotate_left
          ·intro w'
           go_simp
           with_reducible rfl
          rotate_left
          ·simp only [Act.put, zT, zZ, zU, i64_w, i32_w]
           rfl
          refine pure_ (i := 11) (N := some 33) (v := ?_) (a' := ?_) zb5_12 rfl rfl (any_of HT_.out (by kernel_rfl)) (fun _ _ _ h => h) (Or.inl ⟨by rfl, ?_⟩) ?_ ?_
          rotate_left
          ·intro w'
           go_simp
           with_reducible rfl
          rotate_left
          ·simp only [Act.put, zT, zZ, zU, i64_w, i32_w]
           rfl
          refine pure_ (i := 12) (N := some 34) (v := ?_) (a' := ?_) zb5_13 rfl rfl (any_of HT_.out (by kernel_rfl)) (fun _ _ _ h => h) (Or.inl ⟨by rfl, ?_⟩) ?_ ?_
          rotate_left
          ·intro w'
           go_simp
           with_reducible rfl
          rotate_left
          ·simp only [Act.put, zT, zZ, zU, i64_w, i32_w]
           rfl
          refine pure_ (i := 13) (N := some 11) (v := ?_) (a' := ?_) zb5_14 rfl rfl (any_of HT_.out (by kernel_rfl)) (fun _ _ _ h => h) (Or.inl ⟨by rfl, ?_⟩) ?_ ?_
          rotate_left
          ·intro w'
           go_simp
           with_reducible rfl
          rotate_left
          ·simp only [Act.put, zT, zZ, zU, i64_w, i32_w]
           rfl
          refine pure_ (i := 14) (N := some 10) (v := ?_) (a' := ?_) zb5_15 rfl rfl (any_of HT_.out (by kernel_rfl)) (fun _ _ _ h => h) (Or.inl ⟨by rfl, ?_⟩) ?_ ?_
          rotate_left
          ·intro w'
           go_simp
           with_reducible rfl
          rotate_left
          ·simp only [Act.put, zT, zZ, zU, i64_w, i32_w]
           rfl
          refine done_ (done_of HT_.out (by kernel_rfl)) ?_
          try go_wp2
          have n0_ := zM (zD BK163.out)
          have n1_ := zM (zD BK168.out)
          have n2_ := zM (zW HB.out)
          clear BK163
          clear BK168
          clear HB
          have BK163 := n0_
          have BK168 := n1_
          have HB := n2_
          clear n0_ n1_ n2_
          have p12 : 0 ≤ (0 : Int) := (by omega)
          have q12 : 0 < t172.size := (by have : (0 : Int) < (t172.size : Int) := of_decide_eq_true (by first | (with_reducible assumption) | assumption); omega)
          have hx12 : ∀ h : 0 < t172.size, ((t172[0]'h).toNat : Int) = bt t172 0 := bt_at t172 0
          clear p12
          have qi12 : (0 < (t172.size : Int)) = True := eq_true (of_decide_eq_true (by first | (with_reducible assumption) | assumption))
          replace q12 := eq_true q12
          have p14 : 0 ≤ (1 : Int) := (by omega)
          have q14 : 1 < t172.size := (by have : (1 : Int) < (t172.size : Int) := of_decide_eq_true (by first | (with_reducible assumption) | assumption); omega)
          have hx14 : ∀ h : 1 < t172.size, ((t172[1]'h).toNat : Int) = bt t172 1 := bt_at t172 1
          clear p14
          have qi14 : (1 < (t172.size : Int)) = True := eq_true (of_decide_eq_true (by first | (with_reducible assumption) | assumption))
          replace q14 := eq_true q14
          refine start_ (n := 9) (S := fun w' => True) (ds := []) zb5_16 (by kernel_rfl) rfl rfl trivial (fun hHeld => ?_); refine with_tabW block_Get.tab7 block_Get.bits7 (fun HT_ HW_ => ?_)
          generalize w59.drew = w60 at BK163 BK168 HB hHeld ⊢
          refine pure_ (i := 0) (N := some 39) (v := ?_) (a' := ?_) zb5_17 rfl rfl (any_of HT_.out (by kernel_rfl)) (fun _ _ _ h => h) (Or.inl ⟨by rfl, ?_⟩) ?_ ?_
          rotate_left
          ·intro w'
           go_simp
           with_reducible rfl
          rotate_left
          ·simp only [Act.put, zT, zZ, zU, i64_w, i32_w]
           rfl
          refine pure_ (i := 4) (N := some 43) (v := ?_) (a' := ?_) zb5_18 rfl rfl (any_of HT_.out (by kernel_rfl)) (fun _ _ _ h => h) (Or.inl ⟨by rfl, ?_⟩) ?_ ?_
          rotate_left
          ·intro w'
           go_simp
           with_reducible rfl
          rotate_left
          ·simp only [Act.put, zT, zZ, zU, i64_w, i32_w]
           rfl
          refine take_ (i := 1) (N := some 40) (v := ?_) (a' := ?_) zb5_19 rfl rfl (take_ofW HT_.out HW_.out (by kernel_rfl)) (fun _ _ _ h => h) (Or.inl ⟨by rfl, ?_⟩) hHeld ?_ ?_
          rotate_left
          ·intro w' _
           go_simp
           with_reducible rfl
          rotate_left
          ·simp only [Act.put, zT, zZ, zU, i64_w, i32_w]
           rfl
          refine pure_ (i := 2) (N := some 41) (v := ?_) (a' := ?_) zb5_20 rfl rfl (any_of HT_.out (by kernel_rfl)) (fun _ _ _ h => h) (Or.inl ⟨by rfl, ?_⟩) ?_ ?_
          rotate_left
          ·intro w'
           go_simp
           with_reducible rfl
          rotate_left
          ·simp only [Act.put, zT, zZ, zU, i64_w, i32_w]
           rfl
          refine pure_ (i := 3) (N := some 42) (v := ?_) (a' := ?_) #[true, true, true, true, true, false, false, false, false] rfl rfl (any_of HT_.out (by kernel_rfl)) (fun _ _ _ h => h) (Or.inl ⟨by rfl, ?_⟩) ?_ ?_
          rotate_left
          ·intro w'
           go_simp
           with_reducible rfl
          rotate_left
          ·simp only [Act.put, zT, zZ, zU, i64_w, i32_w]
           rfl
          refine take_ (i := 5) (N := some 44) (v := ?_) (a' := ?_) #[true, true, true, true, true, true, false, false, false] rfl rfl (take_ofW HT_.out HW_.out (by kernel_rfl)) (fun _ _ _ h => h) (Or.inl ⟨by rfl, ?_⟩) hHeld ?_ ?_
          rotate_left
          ·intro w' _
           go_simp
           with_reducible rfl
          rotate_left
          ·simp only [Act.put, zT, zZ, zU, i64_w, i32_w]
           rfl
          refine pure_ (i := 6) (N := some 45) (v := ?_) (a' := ?_) #[true, true, true, true, true, true, true, false, false] rfl rfl (any_of HT_.out (by kernel_rfl)) (fun _ _ _ h => h) (Or.inl ⟨by rfl, ?_⟩) ?_ ?_
          rotate_left
          ·intro w'
           go_simp
           with_reducible rfl
          rotate_left
          ·simp only [Act.put, zT, zZ, zU, i64_w, i32_w]
           rfl
          refine pure_ (i := 7) (N := some 46) (v := ?_) (a' := ?_) #[true, true, true, true, true, true, true, true, false] rfl rfl (any_of HT_.out (by kernel_rfl)) (fun _ _ _ h => h) (Or.inl ⟨by rfl, ?_⟩) ?_ ?_
          rotate_left
          ·intro w'
           go_simp
           with_reducible rfl
          rotate_left
          ·simp only [Act.put, zT, zZ, zU, i64_w, i32_w]
           rfl
          refine pure_ (i := 8) (N := some 12) (v := ?_) (a' := ?_) #[true, true, true, true, true, true, true, true, true] rfl rfl (any_of HT_.out (by kernel_rfl)) (fun _ _ _ h => h) (Or.inl ⟨by rfl, ?_⟩) ?_ ?_
          rotate_left
          ·intro w'
           go_simp
           with_reducible rfl
          rotate_left
          ·simp only [Act.put, zT, zZ, zU, i64_w, i32_w]
           rfl
          refine done_ (done_of HT_.out (by kernel_rfl)) ?_
          try go_wp2_with (first | (go_at_call 20; (with_reducible refine (strings_Trim.calls (t172.extract ((ji28) : Int).toNat t172.size) (⟨#[0]⟩ : ByteArray) t174 _ A31.out).mono ?_); rintro e w' ⟨rfl, ⟨nd, rfl⟩⟩; (try (rw [drewN_self w60]; generalize hq_ : World.drewN w60 _ = w60; have n0_ : Aside0 (w60.heap[gb163]? = some (.cells #[.int .u32 0, .int .u64 0, .int .u32 0] 25 (0, 0))) := ⟨by rw [← hq_]; exact (by (with_reducible repeat (first | refine zN ?_ _ | refine zD ?_ | refine zA ?_ _)); exact BK163.out)⟩; have n1_ : Aside0 (w60.heap[gb168]? = some (.cells #[.int .u32 t164, .int .u64 t165, .int .u32 t166] 25 (0, 0))) := ⟨by rw [← hq_]; exact (by (with_reducible repeat (first | refine zN ?_ _ | refine zD ?_ | refine zA ?_ _)); exact BK168.out)⟩; have n2_ : Aside0 (Below w.heap.size w w60) := ⟨by rw [← hq_]; exact (by repeat (first | (with_reducible first | exact HB.out | apply zL | apply zP | apply zW | refine zS ?_ GE163.out | refine zS ?_ GE168.out) | exact HB.out))⟩; clear BK163 BK168 HB hq_; have BK163 := n0_; have BK168 := n1_; have HB := n2_; clear n0_ n1_ n2_)); have hcz61_0 : w60.cell? ⟨gb163, 0, none⟩ = some (.int .u32 0) := (zC BK163.out 0).trans rfl; have hcz61_1 : w60.cell? ⟨gb163, 1, none⟩ = some (.int .u64 0) := (zC BK163.out 1).trans rfl; have hcz61_2 : w60.cell? ⟨gb163, 2, none⟩ = some (.int .u32 0) := (zC BK163.out 2).trans rfl; have hfz61_0 := zF BK163.out 0; have hfz61_1 := zF BK163.out 1; have hfz61_2 := zF BK163.out 2))
          refine bodyPost_ret (results_ctt rfl _ _ gb163 25 #[.int .u32 0, .int .u64 0, .int .u32 0] (0, 0) _ rfl (by (with_reducible repeat (first | refine zN ?_ _ | refine zD ?_ | refine zA ?_ _)); refine blk_put (cs := #[.int .u32 0, .int .u64 0, .int .u32 0]) ?_ 2 _ rfl; (with_reducible repeat (first | refine zN ?_ _ | refine zD ?_ | refine zA ?_ _)); refine blk_put (cs := #[.int .u32 0, .int .u64 0, .int .u32 0]) ?_ 1 _ rfl; (with_reducible repeat (first | refine zN ?_ _ | refine zD ?_ | refine zA ?_ _)); refine blk_put (cs := #[.int .u32 0, .int .u64 0, .int .u32 0]) ?_ 0 _ rfl; (with_reducible repeat (first | refine zN ?_ _ | refine zD ?_ | refine zA ?_ _)); exact BK163.out) Tryd.underlying25 rfl (by kernel_rfl)) rfl ?_
          exact ⟨by first | rfl | (simp [errW_none, errW_some] <;> rfl) | (simp only [← hji28]; first | rfl | (simp [errW_none, errW_some] <;> rfl)) | (simp [*, errW_none, errW_some] <;> rfl), by repeat (first | (with_reducible first | exact HB.out | apply zL | apply zP | apply zW | refine zS ?_ GE163.out | refine zS ?_ GE168.out) | exact HB.out)⟩
        ·rw [if_neg c30] at H
         exact absurd H (by simp)
       ·rw [if_neg c29] at H
        exact absurd H (by simp)
     ·rw [if_neg c13] at H
      exact absurd H (by simp)
    ·rw [if_neg c11] at H
     exact absurd H (by simp)
   ·rw [if_neg c10] at H
    have c10b0 : (t173 == 0) = false := beq_eq_false_iff_ne.mpr c10
    have c10b1 : (t173 != 0) = true := bne_iff_ne.mpr c10
    simp only [Option.some.injEq, Prod.mk.injEq] at H
    obtain ⟨rfl, rfl, rfl, rfl, rfl⟩ := H
    go_enter Tryd.func8, Tryd.ntmps8
    try go_wp2_with (first | ((with_reducible refine gate_dst (N := 6) rfl ?_); refine box_event ?hg (N := 6) ?hd (cs := #[.int .u32 0, .int .u64 0, .int .u32 0]) (t := 25) ?hr ?_; (case hd => rfl); (case hg => rfl); (case hr => first | (go_simp; done) | (go_simp; rfl)); intro gb163 hg w62 hbox hb; have n0_ := zM (below_step (by repeat (first | (with_reducible first | exact HB.out | apply zL | apply zP | apply zW) | exact HB.out)) hb); have n1_ := zM (hbox); have n2_ := zM ((by rw [hg]; exact (below_size (by repeat (first | (with_reducible first | exact HB.out | apply zL | apply zP | apply zW) | exact HB.out))) : w.heap.size ≤ gb163)); have n3_ := zM ((by rw [hg]; exact (below_size (by repeat (first | (with_reducible first | exact HB.out | apply zL | apply zP | apply zW) | exact HB.out))) : w.heap.size ≤ gb163)); clear HB; have HB := n0_; have BK163 := n1_; have GW163 := n2_; have GE163 := n3_; clear n0_ n1_ n2_ n3_; clear hb hbox hg) | ((with_reducible refine gate_callee (f := 9) rfl ?_); refine goesL_ (some 15) rfl rfl Tryd.func9 (by kernel_rfl) rfl #[.string a2] rfl (by (try simp only [zY, List.map_cons, List.map_nil]); first | done | rfl | (simp only [zV, zX]; rfl)) ?_; (with_reducible refine (block_Head.calls a2 t164 t165 t166 t167 _ A4.out).mono ?_); rintro e w63 ⟨rfl, hb⟩; refine ⟨_, rfl, ?_⟩; have n0_ := zM (zB (g := gb163) (o := .cells #[.int .u32 0, .int .u64 0, .int .u32 0] 25 (0, 0)) (by (with_reducible repeat (first | refine zN ?_ _ | refine zD ?_ | refine zA ?_ _)); exact BK163.out) hb); have n1_ := zM (below_step (by repeat (first | (with_reducible first | exact HB.out | apply zL | apply zP | apply zW | refine zS ?_ GE163.out) | exact HB.out)) hb); clear BK163; clear HB; have BK163 := n0_; have HB := n1_; clear n0_ n1_; (try clear hb); (try clear hb2); (try clear hk); (try clear hi)) | ((with_reducible refine gate_dst (N := 9) rfl ?_); refine box_event ?hg (N := 9) ?hd (cs := #[.int .u32 0, .int .u64 0, .int .u32 0]) (t := 25) ?hr ?_; (case hd => rfl); (case hg => rfl); (case hr => first | (go_simp; done) | (go_simp; rfl)); intro gb168 hg w64 hbox hb; have n0_ := zM (zB (g := gb163) (o := .cells #[.int .u32 0, .int .u64 0, .int .u32 0] 25 (0, 0)) (by (with_reducible repeat (first | refine zN ?_ _ | refine zD ?_ | refine zA ?_ _)); exact BK163.out) hb); have n1_ := zM (below_step (by repeat (first | (with_reducible first | exact HB.out | apply zL | apply zP | apply zW | refine zS ?_ GE163.out) | exact HB.out)) hb); have n2_ := zM (hbox); have n3_ := zM ((by rw [hg]; exact (below_size (by repeat (first | (with_reducible first | exact HB.out | apply zL | apply zP | apply zW | refine zS ?_ GE163.out) | exact HB.out))) : w.heap.size ≤ gb168)); have n4_ := zM ((by rw [hg]; exact (below_size (by repeat (first | (with_reducible first | exact HB.out | apply zL | apply zP | apply zW | refine zS ?_ GE163.out) | exact HB.out))) : w.heap.size ≤ gb168)); have n5_ := zM ((by rw [hg]; exact Nat.ne_of_lt (blk_lt (g := gb163) (o := .cells #[.int .u32 0, .int .u64 0, .int .u32 0] 25 (0, 0)) (by (with_reducible repeat (first | refine zN ?_ _ | refine zD ?_ | refine zA ?_ _)); exact BK163.out)) : gb163 ≠ gb168)); have n6_ := zM ((by rw [hg]; exact Nat.ne_of_gt (blk_lt (g := gb163) (o := .cells #[.int .u32 0, .int .u64 0, .int .u32 0] 25 (0, 0)) (by (with_reducible repeat (first | refine zN ?_ _ | refine zD ?_ | refine zA ?_ _)); exact BK163.out)) : gb168 ≠ gb163)); clear BK163; clear HB; have BK163 := n0_; have HB := n1_; have BK168 := n2_; have GW168 := n3_; have GE168 := n4_; have NB163_168 := n5_; have NB168_163 := n6_; clear n0_ n1_ n2_ n3_ n4_ n5_ n6_; clear hb hbox hg; have hnb65 := NB168_163.out; have hnc65 := NB163_168.out; have hcz66_0 : w64.cell? ⟨gb168, 0, none⟩ = some (.int .u32 0) := (zC BK168.out 0).trans rfl; have hcz66_1 : w64.cell? ⟨gb168, 1, none⟩ = some (.int .u64 0) := (zC BK168.out 1).trans rfl; have hcz66_2 : w64.cell? ⟨gb168, 2, none⟩ = some (.int .u32 0) := (zC BK168.out 2).trans rfl; have hfz66_0 := zF BK168.out 0; have hfz66_1 := zF BK168.out 1; have hfz66_2 := zF BK168.out 2))
    have n0_ : Aside0 ((((w64.setCell ⟨gb168, 0, none⟩ (.int .u32 t164)).setCell ⟨gb168, 1, none⟩ (.int .u64 t165)).setCell ⟨gb168, 2, none⟩ (.int .u32 t166)).heap[gb163]? = some (.cells #[.int .u32 0, .int .u64 0, .int .u32 0] 25 (0, 0))) := ⟨by (with_reducible repeat (first | refine zN ?_ _ | refine zD ?_ | refine zA ?_ _)); refine blk_far ?_ NB163_168.out _; (with_reducible repeat (first | refine zN ?_ _ | refine zD ?_ | refine zA ?_ _)); refine blk_far ?_ NB163_168.out _; (with_reducible repeat (first | refine zN ?_ _ | refine zD ?_ | refine zA ?_ _)); refine blk_far ?_ NB163_168.out _; (with_reducible repeat (first | refine zN ?_ _ | refine zD ?_ | refine zA ?_ _)); exact BK163.out⟩
    have n1_ : Aside0 ((((w64.setCell ⟨gb168, 0, none⟩ (.int .u32 t164)).setCell ⟨gb168, 1, none⟩ (.int .u64 t165)).setCell ⟨gb168, 2, none⟩ (.int .u32 t166)).heap[gb168]? = some (.cells #[.int .u32 t164, .int .u64 t165, .int .u32 t166] 25 (0, 0))) := ⟨by (with_reducible repeat (first | refine zN ?_ _ | refine zD ?_ | refine zA ?_ _)); refine blk_put (cs := #[.int .u32 t164, .int .u64 t165, .int .u32 0]) ?_ 2 _ rfl; (with_reducible repeat (first | refine zN ?_ _ | refine zD ?_ | refine zA ?_ _)); refine blk_put (cs := #[.int .u32 t164, .int .u64 0, .int .u32 0]) ?_ 1 _ rfl; (with_reducible repeat (first | refine zN ?_ _ | refine zD ?_ | refine zA ?_ _)); refine blk_put (cs := #[.int .u32 0, .int .u64 0, .int .u32 0]) ?_ 0 _ rfl; (with_reducible repeat (first | refine zN ?_ _ | refine zD ?_ | refine zA ?_ _)); exact BK168.out⟩
    have n2_ : Aside0 (Below w.heap.size w (((w64.setCell ⟨gb168, 0, none⟩ (.int .u32 t164)).setCell ⟨gb168, 1, none⟩ (.int .u64 t165)).setCell ⟨gb168, 2, none⟩ (.int .u32 t166))) := ⟨by repeat (first | (with_reducible first | exact HB.out | apply zL | apply zP | apply zW | refine zS ?_ GE163.out | refine zS ?_ GE168.out) | exact HB.out)⟩
    (try clear BK163)
    (try clear BK168)
    (try clear HB)
    generalize (((w64.setCell ⟨gb168, 0, none⟩ (.int .u32 t164)).setCell ⟨gb168, 1, none⟩ (.int .u64 t165)).setCell ⟨gb168, 2, none⟩ (.int .u32 t166)) = w67 at n0_ n1_ n2_ ⊢
    have BK163 := n0_
    have BK168 := n1_
    have HB := n2_
    clear n0_ n1_ n2_
    have n0_ := zM (zD BK163.out)
    have n1_ := zM (zD BK168.out)
    have n2_ := zM (zW HB.out)
    clear BK163
    clear BK168
    clear HB
    have BK163 := n0_
    have BK168 := n1_
    have HB := n2_
    clear n0_ n1_ n2_
    refine start_ (n := 15) (S := fun w' => w'.cell? ⟨gb168, 0, none⟩ = some (.int .u32 t164) ∧ w'.cell? ⟨gb168, 1, none⟩ = some (.int .u64 t165) ∧ w'.cell? ⟨gb168, 2, none⟩ = some (.int .u32 t166)) (ds := []) zb5_0 (by kernel_rfl) rfl rfl ⟨(zC BK168.out 0).trans rfl, (zC BK168.out 1).trans rfl, (zC BK168.out 2).trans rfl⟩ (fun hHeld => ?_); refine with_tabW block_Get.tab4 block_Get.bits4 (fun HT_ HW_ => ?_)
    generalize w67.drew = w68 at BK163 BK168 HB hHeld ⊢
    refine pure_ (i := 0) (N := some 23) (v := ?_) (a' := ?_) zb5_1 rfl rfl (any_of HT_.out (by kernel_rfl)) (fun _ _ _ h => h) (Or.inl ⟨by rfl, ?_⟩) ?_ ?_
    rotate_left
    ·intro w'
     go_simp
     with_reducible rfl
    rotate_left
    ·simp only [Act.put, zT, zZ, zU, i64_w, i32_w]
     rfl
    refine pure_ (i := 1) (N := some 24) (v := ?_) (a' := ?_) zb5_2 rfl rfl (any_of HT_.out (by kernel_rfl)) (fun _ _ _ h => h) (Or.inl ⟨by rfl, ?_⟩) ?_ ?_
    rotate_left
    ·intro w'
     go_simp
     with_reducible rfl
    rotate_left
    ·simp only [Act.put, zT, zZ, zU, i64_w, i32_w]
     rfl
    refine pure_ (i := 4) (N := some 27) (v := ?_) (a' := ?_) zb5_3 rfl rfl (any_of HT_.out (by kernel_rfl)) (fun _ _ _ h => h) (Or.inl ⟨by rfl, ?_⟩) ?_ ?_
    rotate_left
    ·intro w'
     go_simp
     with_reducible rfl
    rotate_left
    ·simp only [Act.put, zT, zZ, zU, i64_w, i32_w]
     rfl
    refine pure_ (i := 7) (N := some 30) (v := ?_) (a' := ?_) zb5_4 rfl rfl (any_of HT_.out (by kernel_rfl)) (fun _ _ _ h => h) (Or.inl ⟨by rfl, ?_⟩) ?_ ?_
    rotate_left
    ·intro w'
     go_simp
     with_reducible rfl
    rotate_left
    ·simp only [Act.put, zT, zZ, zU, i64_w, i32_w]
     rfl
    refine pure_ (i := 8) (N := some 31) (v := ?_) (a' := ?_) zb5_5 rfl rfl (any_of HT_.out (by kernel_rfl)) (fun _ _ _ h => h) (Or.inl ⟨by rfl, ?_⟩) ?_ ?_
    rotate_left
    ·intro w'
     go_simp
     with_reducible rfl
    rotate_left
    ·simp only [Act.put, zT, zZ, zU, i64_w, i32_w]
     rfl
    refine take_ (i := 2) (N := some 25) (v := ?_) (a' := ?_) zb5_6 rfl rfl (take_ofW HT_.out HW_.out (by kernel_rfl)) (fun _ _ _ h => h) (Or.inl ⟨by rfl, ?_⟩) hHeld ?_ ?_
    rotate_left
    ·rintro w' ⟨s0, s1, s2⟩
     go_simp
     with_reducible rfl
    rotate_left
    ·simp only [Act.put, zT, zZ, zU, i64_w, i32_w]
     rfl
    refine take_ (i := 5) (N := some 28) (v := ?_) (a' := ?_) zb5_7 rfl rfl (take_ofW HT_.out HW_.out (by kernel_rfl)) (fun _ _ _ h => h) (Or.inl ⟨by rfl, ?_⟩) hHeld ?_ ?_
    rotate_left
    ·rintro w' ⟨s0, s1, s2⟩
     go_simp
     with_reducible rfl
    rotate_left
    ·simp only [Act.put, zT, zZ, zU, i64_w, i32_w]
     rfl
    refine one_ (i := 3) (N := some 26) zb5_8 rfl rfl (one_of HT_.out (by kernel_rfl)) (by decide) (fun K hK => ?_)
    refine goes_ Tryd.func18 (by kernel_rfl) rfl #[.string a0, .int .u32 t164] (by rfl) rfl rfl (by (try simp only [zY, List.map_cons, List.map_nil]); first | done | rfl | (simp only [zV, zX]; rfl)) ?_
    with_reducible refine (keys_Of.calls k a0 t164 t169 t170 _ ?side1 A6.out).mono ?_
    (case side1 => exact Go.Proofs.YtgbhjkkfleeodaaDoor.Sha.SL.below HG_.out (by repeat (first | (with_reducible first | exact HB.out | apply zL | apply zP | apply zW | refine zS ?_ GE163.out | refine zS ?_ GE168.out) | exact HB.out)))
    rintro e w69 ⟨rfl, hb⟩
    refine ⟨_, rfl, ?_⟩
    have n0_ := zM (zB (g := gb163) (o := .cells #[.int .u32 0, .int .u64 0, .int .u32 0] 25 (0, 0)) (by (with_reducible repeat (first | refine zN ?_ _ | refine zD ?_ | refine zA ?_ _)); exact BK163.out) hb)
    have n1_ := zM (zB (g := gb168) (o := .cells #[.int .u32 t164, .int .u64 t165, .int .u32 t166] 25 (0, 0)) (by (with_reducible repeat (first | refine zN ?_ _ | refine zD ?_ | refine zA ?_ _)); exact BK168.out) hb)
    have n2_ := zM (below_step (by repeat (first | (with_reducible first | exact HB.out | apply zL | apply zP | apply zW | refine zS ?_ GE163.out | refine zS ?_ GE168.out) | exact HB.out)) hb)
    clear BK163
    clear BK168
    clear HB
    have BK163 := n0_
    have BK168 := n1_
    have HB := n2_
    clear n0_ n1_ n2_
    (try clear hb)
    (try clear hb2)
    (try clear hk)
    (try clear hi)
    refine hK.out _ _ ⟨(zC BK168.out 0).trans rfl, (zC BK168.out 1).trans rfl, (zC BK168.out 2).trans rfl⟩ (fun hHeld => ?_)
    clear hK K
    refine norm_ (a' := ?_) ?_ ?_
    rotate_left
    ·show Act.put _ (some 26) _ = _
     simp only [Act.put, zT, zZ, zU, i64_w, i32_w]
     rfl
    refine one_ (i := 6) (N := some 29) zb5_9 rfl rfl (one_of HT_.out (by kernel_rfl)) (by decide) (fun K hK => ?_)
    refine goes_ Tryd.func16 (by kernel_rfl) rfl #[.agg #[.int .u32 t164, .int .u64 t165, .int .u32 t166]] (by rfl) rfl rfl (by (try simp only [zY, List.map_cons, List.map_nil]); first | done | rfl | (simp only [zV, zX]; rfl)) ?_
    with_reducible refine (block_nonce.calls t164 t165 t166 t171 _ A7.out).mono ?_
    rintro e w70 ⟨rfl, hb⟩
    refine ⟨_, rfl, ?_⟩
    have n0_ := zM (zB (g := gb163) (o := .cells #[.int .u32 0, .int .u64 0, .int .u32 0] 25 (0, 0)) (by (with_reducible repeat (first | refine zN ?_ _ | refine zD ?_ | refine zA ?_ _)); exact BK163.out) hb)
    have n1_ := zM (zB (g := gb168) (o := .cells #[.int .u32 t164, .int .u64 t165, .int .u32 t166] 25 (0, 0)) (by (with_reducible repeat (first | refine zN ?_ _ | refine zD ?_ | refine zA ?_ _)); exact BK168.out) hb)
    have n2_ := zM (below_step (by repeat (first | (with_reducible first | exact HB.out | apply zL | apply zP | apply zW | refine zS ?_ GE163.out | refine zS ?_ GE168.out) | exact HB.out)) hb)
    clear BK163
    clear BK168
    clear HB
    have BK163 := n0_
    have BK168 := n1_
    have HB := n2_
    clear n0_ n1_ n2_
    (try clear hb)
    (try clear hb2)
    (try clear hk)
    (try clear hi)
    refine hK.out _ _ ⟨(zC BK168.out 0).trans rfl, (zC BK168.out 1).trans rfl, (zC BK168.out 2).trans rfl⟩ (fun hHeld => ?_)
    clear hK K
    refine norm_ (a' := ?_) ?_ ?_
    rotate_left
    ·show Act.put _ (some 29) _ = _
     simp only [Act.put, zT, zZ, zU, i64_w, i32_w]
     rfl
    refine one_ (i := 9) (N := some 32) zb5_10 rfl rfl (one_of HT_.out (by kernel_rfl)) (by decide) (fun K hK => ?_)
    refine goes_ Tryd.func19 (by kernel_rfl) rfl #[.agg #[.string t169, .string t170], .int .i64 a1, .string t171, .string (a2.extract 16 a2.size)] (by rfl) rfl rfl (by (try simp only [zY, List.map_cons, List.map_nil]); first | done | rfl | (simp only [zV, zX]; rfl)) ?_
    with_reducible refine (seal_Get.calls k t169 t170 a1 t171 (a2.extract 16 a2.size) t172 t173 _ ?side1 A9.out).mono ?_
    (case side1 => exact Go.Proofs.YtgbhjkkfleeodaaDoor.Sha.SL.below HG_.out (by repeat (first | (with_reducible first | exact HB.out | apply zL | apply zP | apply zW | refine zS ?_ GE163.out | refine zS ?_ GE168.out) | exact HB.out)))
    rintro e w71 ⟨rfl, hb⟩
    refine ⟨_, rfl, ?_⟩
    have n0_ := zM (zB (g := gb163) (o := .cells #[.int .u32 0, .int .u64 0, .int .u32 0] 25 (0, 0)) (by (with_reducible repeat (first | refine zN ?_ _ | refine zD ?_ | refine zA ?_ _)); exact BK163.out) hb)
    have n1_ := zM (zB (g := gb168) (o := .cells #[.int .u32 t164, .int .u64 t165, .int .u32 t166] 25 (0, 0)) (by (with_reducible repeat (first | refine zN ?_ _ | refine zD ?_ | refine zA ?_ _)); exact BK168.out) hb)
    have n2_ := zM (below_step (by repeat (first | (with_reducible first | exact HB.out | apply zL | apply zP | apply zW | refine zS ?_ GE163.out | refine zS ?_ GE168.out) | exact HB.out)) hb)
    clear BK163
    clear BK168
    clear HB
    have BK163 := n0_
    have BK168 := n1_
    have HB := n2_
    clear n0_ n1_ n2_
    (try clear hb)
    (try clear hb2)
    (try clear hk)
    (try clear hi)
    refine hK.out _ _ ⟨(zC BK168.out 0).trans rfl, (zC BK168.out 1).trans rfl, (zC BK168.out 2).trans rfl⟩ (fun hHeld => ?_)
    clear hK K
    refine norm_ (a' := ?_) ?_ ?_
    rotate_left
    ·show Act.put _ (some 32) _ = _
     simp only [Act.put, zT, zZ, zU, i64_w, i32_w]
     rfl
    refine pure_ (i := 10) (N := some 22) (v := ?_) (a' := ?_) zb5_11 rfl rfl (any_of HT_.out (by kernel_rfl)) (fun _ _ _ h => h) (Or.inl ⟨by rfl, ?_⟩) ?_ ?_
    rotate_left
    ·intro w'
     go_simp
     with_reducible rfl
    rotate_left
    ·simp only [Act.put, zT, zZ, zU, i64_w, i32_w]
     rfl
    refine pure_ (i := 11) (N := some 33) (v := ?_) (a' := ?_) zb5_12 rfl rfl (any_of HT_.out (by kernel_rfl)) (fun _ _ _ h => h) (Or.inl ⟨by rfl, ?_⟩) ?_ ?_
    rotate_left
    ·intro w'
     go_simp
     with_reducible rfl
    rotate_left
    ·simp only [Act.put, zT, zZ, zU, i64_w, i32_w]
     rfl
    refine pure_ (i := 12) (N := some 34) (v := ?_) (a' := ?_) zb5_13 rfl rfl (any_of HT_.out (by kernel_rfl)) (fun _ _ _ h => h) (Or.inl ⟨by rfl, ?_⟩) ?_ ?_
    rotate_left
    ·intro w'
     go_simp
     with_reducible rfl
    rotate_left
    ·simp only [Act.put, zT, zZ, zU, i64_w, i32_w]
     rfl
    refine pure_ (i := 13) (N := some 11) (v := ?_) (a' := ?_) zb5_14 rfl rfl (any_of HT_.out (by kernel_rfl)) (fun _ _ _ h => h) (Or.inl ⟨by rfl, ?_⟩) ?_ ?_
    rotate_left
    ·intro w'
     go_simp
     with_reducible rfl
    rotate_left
    ·simp only [Act.put, zT, zZ, zU, i64_w, i32_w]
     rfl
    refine pure_ (i := 14) (N := some 10) (v := ?_) (a' := ?_) zb5_15 rfl rfl (any_of HT_.out (by kernel_rfl)) (fun _ _ _ h => h) (Or.inl ⟨by rfl, ?_⟩) ?_ ?_
    rotate_left
    ·intro w'
     go_simp
     with_reducible rfl
    rotate_left
    ·simp only [Act.put, zT, zZ, zU, i64_w, i32_w]
     rfl
    refine done_ (done_of HT_.out (by kernel_rfl)) ?_
    have hcz72_0 : w71.cell? ⟨gb163, 0, none⟩ = some (.int .u32 0) := (zC BK163.out 0).trans rfl
    have hcz72_1 : w71.cell? ⟨gb163, 1, none⟩ = some (.int .u64 0) := (zC BK163.out 1).trans rfl
    have hcz72_2 : w71.cell? ⟨gb163, 2, none⟩ = some (.int .u32 0) := (zC BK163.out 2).trans rfl
    have hfz72_0 := zF BK163.out 0
    have hfz72_1 := zF BK163.out 1
    have hfz72_2 := zF BK163.out 2
    try go_wp2
    refine bodyPost_ret (results_ctt rfl _ _ gb163 25 #[.int .u32 0, .int .u64 0, .int .u32 0] (0, 0) _ rfl (by (with_reducible repeat (first | refine zN ?_ _ | refine zD ?_ | refine zA ?_ _)); refine blk_put (cs := #[.int .u32 0, .int .u64 0, .int .u32 0]) ?_ 2 _ rfl; (with_reducible repeat (first | refine zN ?_ _ | refine zD ?_ | refine zA ?_ _)); refine blk_put (cs := #[.int .u32 0, .int .u64 0, .int .u32 0]) ?_ 1 _ rfl; (with_reducible repeat (first | refine zN ?_ _ | refine zD ?_ | refine zA ?_ _)); refine blk_put (cs := #[.int .u32 0, .int .u64 0, .int .u32 0]) ?_ 0 _ rfl; (with_reducible repeat (first | refine zN ?_ _ | refine zD ?_ | refine zA ?_ _)); exact BK163.out) Tryd.underlying25 rfl (by kernel_rfl)) rfl ?_
    exact ⟨by first | rfl | (simp [errW_none, errW_some] <;> rfl) | (simp [*, errW_none, errW_some] <;> rfl), by repeat (first | (with_reducible first | exact HB.out | apply zL | apply zP | apply zW | refine zS ?_ GE163.out | refine zS ?_ GE168.out) | exact HB.out)⟩
  ·rw [if_neg c8] at H
   exact absurd H (by simp)
 ·rw [if_neg c5] at H
  have c5b0 : (t167 == 0) = false := beq_eq_false_iff_ne.mpr c5
  have c5b1 : (t167 != 0) = true := bne_iff_ne.mpr c5
  simp only [Option.some.injEq, Prod.mk.injEq] at H
  obtain ⟨rfl, rfl, rfl, rfl, rfl⟩ := H
  go_enter Tryd.func8, Tryd.ntmps8
  go_wp2_with (first | ((with_reducible refine gate_dst (N := 6) rfl ?_); refine box_event ?hg (N := 6) ?hd (cs := #[.int .u32 0, .int .u64 0, .int .u32 0]) (t := 25) ?hr ?_; (case hd => rfl); (case hg => rfl); (case hr => first | (go_simp; done) | (go_simp; rfl)); intro gb163 hg w73 hbox hb; have n0_ := zM (below_step (by repeat (first | (with_reducible first | exact HB.out | apply zL | apply zP | apply zW) | exact HB.out)) hb); have n1_ := zM (hbox); have n2_ := zM ((by rw [hg]; exact (below_size (by repeat (first | (with_reducible first | exact HB.out | apply zL | apply zP | apply zW) | exact HB.out))) : w.heap.size ≤ gb163)); have n3_ := zM ((by rw [hg]; exact (below_size (by repeat (first | (with_reducible first | exact HB.out | apply zL | apply zP | apply zW) | exact HB.out))) : w.heap.size ≤ gb163)); clear HB; have HB := n0_; have BK163 := n1_; have GW163 := n2_; have GE163 := n3_; clear n0_ n1_ n2_ n3_; clear hb hbox hg) | ((with_reducible refine gate_callee (f := 9) rfl ?_); refine goesL_ (some 15) rfl rfl Tryd.func9 (by kernel_rfl) rfl #[.string a2] rfl (by (try simp only [zY, List.map_cons, List.map_nil]); first | done | rfl | (simp only [zV, zX]; rfl)) ?_; (with_reducible refine (block_Head.calls a2 t164 t165 t166 t167 _ A4.out).mono ?_); rintro e w74 ⟨rfl, hb⟩; refine ⟨_, rfl, ?_⟩; have n0_ := zM (zB (g := gb163) (o := .cells #[.int .u32 0, .int .u64 0, .int .u32 0] 25 (0, 0)) (by (with_reducible repeat (first | refine zN ?_ _ | refine zD ?_ | refine zA ?_ _)); exact BK163.out) hb); have n1_ := zM (below_step (by repeat (first | (with_reducible first | exact HB.out | apply zL | apply zP | apply zW | refine zS ?_ GE163.out) | exact HB.out)) hb); clear BK163; clear HB; have BK163 := n0_; have HB := n1_; clear n0_ n1_; (try clear hb); (try clear hb2); (try clear hk); (try clear hi)) | ((with_reducible refine gate_dst (N := 9) rfl ?_); refine box_event ?hg (N := 9) ?hd (cs := #[.int .u32 0, .int .u64 0, .int .u32 0]) (t := 25) ?hr ?_; (case hd => rfl); (case hg => rfl); (case hr => first | (go_simp; done) | (go_simp; rfl)); intro gb168 hg w75 hbox hb; have n0_ := zM (zB (g := gb163) (o := .cells #[.int .u32 0, .int .u64 0, .int .u32 0] 25 (0, 0)) (by (with_reducible repeat (first | refine zN ?_ _ | refine zD ?_ | refine zA ?_ _)); exact BK163.out) hb); have n1_ := zM (below_step (by repeat (first | (with_reducible first | exact HB.out | apply zL | apply zP | apply zW | refine zS ?_ GE163.out) | exact HB.out)) hb); have n2_ := zM (hbox); have n3_ := zM ((by rw [hg]; exact (below_size (by repeat (first | (with_reducible first | exact HB.out | apply zL | apply zP | apply zW | refine zS ?_ GE163.out) | exact HB.out))) : w.heap.size ≤ gb168)); have n4_ := zM ((by rw [hg]; exact (below_size (by repeat (first | (with_reducible first | exact HB.out | apply zL | apply zP | apply zW | refine zS ?_ GE163.out) | exact HB.out))) : w.heap.size ≤ gb168)); have n5_ := zM ((by rw [hg]; exact Nat.ne_of_lt (blk_lt (g := gb163) (o := .cells #[.int .u32 0, .int .u64 0, .int .u32 0] 25 (0, 0)) (by (with_reducible repeat (first | refine zN ?_ _ | refine zD ?_ | refine zA ?_ _)); exact BK163.out)) : gb163 ≠ gb168)); have n6_ := zM ((by rw [hg]; exact Nat.ne_of_gt (blk_lt (g := gb163) (o := .cells #[.int .u32 0, .int .u64 0, .int .u32 0] 25 (0, 0)) (by (with_reducible repeat (first | refine zN ?_ _ | refine zD ?_ | refine zA ?_ _)); exact BK163.out)) : gb168 ≠ gb163)); clear BK163; clear HB; have BK163 := n0_; have HB := n1_; have BK168 := n2_; have GW168 := n3_; have GE168 := n4_; have NB163_168 := n5_; have NB168_163 := n6_; clear n0_ n1_ n2_ n3_ n4_ n5_ n6_; clear hb hbox hg; have hnb76 := NB168_163.out; have hnc76 := NB163_168.out; have hcz77_0 : w75.cell? ⟨gb168, 0, none⟩ = some (.int .u32 0) := (zC BK168.out 0).trans rfl; have hcz77_1 : w75.cell? ⟨gb168, 1, none⟩ = some (.int .u64 0) := (zC BK168.out 1).trans rfl; have hcz77_2 : w75.cell? ⟨gb168, 2, none⟩ = some (.int .u32 0) := (zC BK168.out 2).trans rfl; have hfz77_0 := zF BK168.out 0; have hfz77_1 := zF BK168.out 1; have hfz77_2 := zF BK168.out 2; have hcz78_0 : w75.cell? ⟨gb163, 0, none⟩ = some (.int .u32 0) := (zC BK163.out 0).trans rfl; have hcz78_1 : w75.cell? ⟨gb163, 1, none⟩ = some (.int .u64 0) := (zC BK163.out 1).trans rfl; have hcz78_2 : w75.cell? ⟨gb163, 2, none⟩ = some (.int .u32 0) := (zC BK163.out 2).trans rfl; have hfz78_0 := zF BK163.out 0; have hfz78_1 := zF BK163.out 1; have hfz78_2 := zF BK163.out 2))
  refine bodyPost_ret (results_ctt rfl _ _ gb163 25 #[.int .u32 0, .int .u64 0, .int .u32 0] (0, 0) _ rfl (by (with_reducible repeat (first | refine zN ?_ _ | refine zD ?_ | refine zA ?_ _)); refine blk_put (cs := #[.int .u32 0, .int .u64 0, .int .u32 0]) ?_ 2 _ rfl; (with_reducible repeat (first | refine zN ?_ _ | refine zD ?_ | refine zA ?_ _)); refine blk_put (cs := #[.int .u32 0, .int .u64 0, .int .u32 0]) ?_ 1 _ rfl; (with_reducible repeat (first | refine zN ?_ _ | refine zD ?_ | refine zA ?_ _)); refine blk_put (cs := #[.int .u32 0, .int .u64 0, .int .u32 0]) ?_ 0 _ rfl; (with_reducible repeat (first | refine zN ?_ _ | refine zD ?_ | refine zA ?_ _)); refine blk_far ?_ NB163_168.out _; (with_reducible repeat (first | refine zN ?_ _ | refine zD ?_ | refine zA ?_ _)); refine blk_far ?_ NB163_168.out _; (with_reducible repeat (first | refine zN ?_ _ | refine zD ?_ | refine zA ?_ _)); refine blk_far ?_ NB163_168.out _; (with_reducible repeat (first | refine zN ?_ _ | refine zD ?_ | refine zA ?_ _)); exact BK163.out) Tryd.underlying25 rfl (by kernel_rfl)) rfl ?_
  exact ⟨by first | rfl | (simp [errW_none, errW_some] <;> rfl) | (simp [*, errW_none, errW_some] <;> rfl), by repeat (first | (with_reducible first | exact HB.out | apply zL | apply zP | apply zW | refine zS ?_ GE163.out | refine zS ?_ GE168.out) | exact HB.out)⟩
end Go.Proofs.YtgbhjkkfleeodaaDoor.PBlockPuts
