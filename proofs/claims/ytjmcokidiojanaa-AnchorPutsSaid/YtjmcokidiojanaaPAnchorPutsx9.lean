-- Written by a program of this session's (the kit's print, with additions of my own). Not trusted: Lean checks it.
import Derived.Test.YtjmcokidiojanaaPAnchorPutsx0
import Derived.Test.YtjmcokidiojanaaPAnchorPutsx1
import Derived.Test.YtjmcokidiojanaaPAnchorPutsx3
import Derived.Test.YtjmcokidiojanaaPAnchorPutsx4
import Derived.Test.YtjmcokidiojanaaPAnchorPutsx6
import Derived.Test.YtjmcokidiojanaaPAnchorPutsx7
import Derived.Test.YtjmcokidiojanaaPAnchorPutsx8
import Derived.Test.YtjmcokidiojanaaXB
namespace Go.Proofs.Ytjmcokidiojanaa.PAnchorPuts
open Go.RowKit Go.Proofs.YtjmcokidiojanaaW.PrintWords Go.Proofs.YtjmcokidiojanaaW.PrintLast Go.Proofs.YtjmcokidiojanaaW.PrintMore
attribute [local go_sem] max2_int min2_int max_two min_two max_three min_three max_four min_four   -- for this text's walks alone
set_option linter.unusedVariables false
set_option linter.unusedSimpArgs false

attribute [local go_sem high] eqA27
/-! ### lodestoneref12_Put: function 9 -/
def lodestoneref12_Put.f (k : Nat) (a0_0 : Int) (a0_1 : Int) (a0_2 : Bool) (a0_3 : ByteArray) (a0_4 : Int) (a0_5 : ByteArray) (a0_6 : Int) (a0_7 : Int) (a0_8 : ByteArray) : Option (ByteArray) := (lodestoneref12_May.f a0_0 a0_1 a0_2 a0_3 a0_4 a0_5 a0_6 a0_7 a0_8).bind fun t248 => (if t248 = true then ((lodestoneref04_Num.f k a0_0).bind fun t249 => (if 4 + t249.size ≤ 9223372036854775807 then ((lodestoneref04_High.f k (IntKind.u64.wrap (a0_1)) 4).bind fun t250 => (if ((⟨#[108, 111, 100, 101]⟩ : ByteArray) ++ t249).size + t250.size ≤ 9223372036854775807 then ((lodestoneref04_Bool.f a0_2).bind fun t251 => (if (((⟨#[108, 111, 100, 101]⟩ : ByteArray) ++ t249) ++ t250).size + t251.size ≤ 9223372036854775807 then ((lodestoneref04_Text.f k a0_3).bind fun t252 => (if ((((⟨#[108, 111, 100, 101]⟩ : ByteArray) ++ t249) ++ t250) ++ t251).size + t252.size ≤ 9223372036854775807 then ((lodestoneref04_Num.f k (IntKind.u64.wrap (wrap64 (a0_4 + 1)))).bind fun t253 => ((lodestoneref04_Text.f k a0_5).bind fun t254 => (if t253.size + t254.size ≤ 9223372036854775807 then (if (((((⟨#[108, 111, 100, 101]⟩ : ByteArray) ++ t249) ++ t250) ++ t251) ++ t252).size + (t253 ++ t254).size ≤ 9223372036854775807 then ((lodestoneref04_Num.f k (IntKind.u64.wrap (a0_6))).bind fun t255 => (if ((((((⟨#[108, 111, 100, 101]⟩ : ByteArray) ++ t249) ++ t250) ++ t251) ++ t252) ++ (t253 ++ t254)).size + t255.size ≤ 9223372036854775807 then ((lodestoneref04_Num.f k (IntKind.u64.wrap (a0_7))).bind fun t256 => (if (((((((⟨#[108, 111, 100, 101]⟩ : ByteArray) ++ t249) ++ t250) ++ t251) ++ t252) ++ (t253 ++ t254)) ++ t255).size + t256.size ≤ 9223372036854775807 then (if ((((((((⟨#[108, 111, 100, 101]⟩ : ByteArray) ++ t249) ++ t250) ++ t251) ++ t252) ++ (t253 ++ t254)) ++ t255) ++ t256).size + a0_8.size ≤ 9223372036854775807 then (some (((((((((⟨#[108, 111, 100, 101]⟩ : ByteArray) ++ t249) ++ t250) ++ t251) ++ t252) ++ (t253 ++ t254)) ++ t255) ++ t256) ++ a0_8)) else (none)) else (none))) else (none))) else (none)) else (none)))) else (none))) else (none))) else (none))) else (none))) else (some (⟨#[]⟩ : ByteArray)))
theorem lodestoneref12_Put.mono : ∀ a0 a1 a2 a3 a4 a5 a6 a7 a8 k, LeO (lodestoneref12_Put.f k a0 a1 a2 a3 a4 a5 a6 a7 a8) (lodestoneref12_Put.f (k + 1) a0 a1 a2 a3 a4 a5 a6 a7 a8) := by
  intro a0 a1 a2 a3 a4 a5 a6 a7 a8 k
  unfold lodestoneref12_Put.f
  repeat' first
      | (with_reducible exact lodestoneref04_High.mono _ _ _)
      | (with_reducible exact lodestoneref04_Num.mono _ _)
      | (with_reducible exact lodestoneref04_Text.mono _ _)
      | (with_reducible exact LeO.refl _)
      | (with_reducible exact LeO.none _)
      | (with_reducible refine LeO.ite ?_ ?_)
      | (with_reducible refine LeO.bind ?_ (fun _ => ?_))
      | exact lodestoneref04_High.mono _ _ _
      | exact lodestoneref04_Num.mono _ _
      | exact lodestoneref04_Text.mono _ _
      | exact LeO.none _
      | refine LeO.ite ?_ ?_
      | refine LeO.bind ?_ (fun _ => ?_)
def lodestoneref12_Put.T3 : Bool × List (List Nat × List Nat) := (true, [([], []), ([0], [0]), ([1], [1]), ([2], [2]), ([], []), ([4], [4]), ([5], [5]), ([6, 2], [6]), ([3, 7], [3, 7]), ([], []), ([9], [9]), ([10, 7], [10]), ([8, 11], [8, 11]), ([], []), ([13], [13]), ([14, 11], [14]), ([12, 15], [12, 15]), ([16, 15, 0, 1, 2, 3, 4, 5, 6, 7, 8, 9, 10, 11, 12, 13, 14, 15, 16], [16])])
def lodestoneref12_Put.B3 : List Nat := [0, 1, 3, 7, 0, 16, 48, 119, 255, 0, 512, 1783, 4095, 0, 8192, 28407, 65535, 131071]
theorem lodestoneref12_Put.tab3 : rtab .any (opsOf Try.f9 3) = lodestoneref12_Put.T3 := by kernel_rfl
theorem lodestoneref12_Put.bits3 : waitsOk lodestoneref12_Put.T3.2 lodestoneref12_Put.B3 = true := by kernel_rfl
def lodestoneref12_Put.T4 : Bool × List (List Nat × List Nat) := (true, [([], []), ([], []), ([1], [1]), ([2], [2]), ([3], [3]), ([4], [4]), ([5], [5]), ([], []), ([7], [7]), ([8], [8]), ([9, 6], [9]), ([6, 10], [6, 10]), ([0, 11], [0, 11]), ([12, 10, 0, 1, 2, 3, 4, 5, 6, 7, 8, 9, 10, 11, 12], [0, 12])])
def lodestoneref12_Put.B4 : List Nat := [0, 0, 2, 6, 14, 30, 62, 0, 128, 384, 1022, 2046, 4095, 8191]
theorem lodestoneref12_Put.tab4 : rtab .any (opsOf Try.f9 4) = lodestoneref12_Put.T4 := by kernel_rfl
theorem lodestoneref12_Put.bits4 : waitsOk lodestoneref12_Put.T4.2 lodestoneref12_Put.B4 = true := by kernel_rfl
def lodestoneref12_Put.T5 : Bool × List (List Nat × List Nat) := (true, [([], []), ([], []), ([1], [1]), ([2], [2]), ([3], [3]), ([0, 4], [0, 4]), ([], []), ([6], [6]), ([7], [7]), ([8, 4], [8]), ([5, 9], [5, 9]), ([], []), ([11], [11]), ([10, 12], [10, 12]), ([13, 9, 0, 1, 2, 3, 4, 5, 6, 7, 8, 9, 10, 11, 12, 13], [13])])
def lodestoneref12_Put.B5 : List Nat := [0, 0, 2, 6, 14, 31, 0, 64, 192, 478, 1023, 0, 2048, 8191, 16383]
theorem lodestoneref12_Put.tab5 : rtab .any (opsOf Try.f9 5) = lodestoneref12_Put.T5 := by kernel_rfl
theorem lodestoneref12_Put.bits5 : waitsOk lodestoneref12_Put.T5.2 lodestoneref12_Put.B5 = true := by kernel_rfl
set_option maxHeartbeats 8000000 in
set_option maxRecDepth 100000 in
theorem lodestoneref12_Put.calls (k : Nat) (a0_0 : Int) (a0_1 : Int) (a0_2 : Bool) (a0_3 : ByteArray) (a0_4 : Int) (a0_5 : ByteArray) (a0_6 : Int) (a0_7 : Int) (a0_8 : ByteArray) (r : ByteArray) (w : World) (h : lodestoneref12_Put.f k a0_0 a0_1 a0_2 a0_3 a0_4 a0_5 a0_6 a0_7 a0_8 = some r) :
    Calls Try.prog 9 #[.agg #[.int .u64 a0_0, .int .u32 a0_1, .bool a0_2, .string a0_3, .int .i64 a0_4, .string a0_5, .int .i64 a0_6, .int .i64 a0_7, .string a0_8]] w fun e w' => e = .returned (.string r) ∧ Below w.heap.size w w' := by
  have hu27 := Try.underlying27
  have HB := Aside0.mk (Below.refl w.heap.size w)
  have H : ((lodestoneref12_May.f a0_0 a0_1 a0_2 a0_3 a0_4 a0_5 a0_6 a0_7 a0_8).bind fun t248 => (if t248 = true then ((lodestoneref04_Num.f k a0_0).bind fun t249 => (if 4 + t249.size ≤ 9223372036854775807 then ((lodestoneref04_High.f k (IntKind.u64.wrap (a0_1)) 4).bind fun t250 => (if ((⟨#[108, 111, 100, 101]⟩ : ByteArray) ++ t249).size + t250.size ≤ 9223372036854775807 then ((lodestoneref04_Bool.f a0_2).bind fun t251 => (if (((⟨#[108, 111, 100, 101]⟩ : ByteArray) ++ t249) ++ t250).size + t251.size ≤ 9223372036854775807 then ((lodestoneref04_Text.f k a0_3).bind fun t252 => (if ((((⟨#[108, 111, 100, 101]⟩ : ByteArray) ++ t249) ++ t250) ++ t251).size + t252.size ≤ 9223372036854775807 then ((lodestoneref04_Num.f k (IntKind.u64.wrap (wrap64 (a0_4 + 1)))).bind fun t253 => ((lodestoneref04_Text.f k a0_5).bind fun t254 => (if t253.size + t254.size ≤ 9223372036854775807 then (if (((((⟨#[108, 111, 100, 101]⟩ : ByteArray) ++ t249) ++ t250) ++ t251) ++ t252).size + (t253 ++ t254).size ≤ 9223372036854775807 then ((lodestoneref04_Num.f k (IntKind.u64.wrap (a0_6))).bind fun t255 => (if ((((((⟨#[108, 111, 100, 101]⟩ : ByteArray) ++ t249) ++ t250) ++ t251) ++ t252) ++ (t253 ++ t254)).size + t255.size ≤ 9223372036854775807 then ((lodestoneref04_Num.f k (IntKind.u64.wrap (a0_7))).bind fun t256 => (if (((((((⟨#[108, 111, 100, 101]⟩ : ByteArray) ++ t249) ++ t250) ++ t251) ++ t252) ++ (t253 ++ t254)) ++ t255).size + t256.size ≤ 9223372036854775807 then (if ((((((((⟨#[108, 111, 100, 101]⟩ : ByteArray) ++ t249) ++ t250) ++ t251) ++ t252) ++ (t253 ++ t254)) ++ t255) ++ t256).size + a0_8.size ≤ 9223372036854775807 then (some (((((((((⟨#[108, 111, 100, 101]⟩ : ByteArray) ++ t249) ++ t250) ++ t251) ++ t252) ++ (t253 ++ t254)) ++ t255) ++ t256) ++ a0_8)) else (none)) else (none))) else (none))) else (none)) else (none)))) else (none))) else (none))) else (none))) else (none))) else (some (⟨#[]⟩ : ByteArray)))) = some r := h
  clear h
  replace H := Option.bind_eq_some_iff.mp H
  obtain ⟨t248, A20, H⟩ := H
  replace H : (if t248 = true then ((lodestoneref04_Num.f k a0_0).bind fun t249 => (if 4 + t249.size ≤ 9223372036854775807 then ((lodestoneref04_High.f k (IntKind.u64.wrap (a0_1)) 4).bind fun t250 => (if ((⟨#[108, 111, 100, 101]⟩ : ByteArray) ++ t249).size + t250.size ≤ 9223372036854775807 then ((lodestoneref04_Bool.f a0_2).bind fun t251 => (if (((⟨#[108, 111, 100, 101]⟩ : ByteArray) ++ t249) ++ t250).size + t251.size ≤ 9223372036854775807 then ((lodestoneref04_Text.f k a0_3).bind fun t252 => (if ((((⟨#[108, 111, 100, 101]⟩ : ByteArray) ++ t249) ++ t250) ++ t251).size + t252.size ≤ 9223372036854775807 then ((lodestoneref04_Num.f k (IntKind.u64.wrap (wrap64 (a0_4 + 1)))).bind fun t253 => ((lodestoneref04_Text.f k a0_5).bind fun t254 => (if t253.size + t254.size ≤ 9223372036854775807 then (if (((((⟨#[108, 111, 100, 101]⟩ : ByteArray) ++ t249) ++ t250) ++ t251) ++ t252).size + (t253 ++ t254).size ≤ 9223372036854775807 then ((lodestoneref04_Num.f k (IntKind.u64.wrap (a0_6))).bind fun t255 => (if ((((((⟨#[108, 111, 100, 101]⟩ : ByteArray) ++ t249) ++ t250) ++ t251) ++ t252) ++ (t253 ++ t254)).size + t255.size ≤ 9223372036854775807 then ((lodestoneref04_Num.f k (IntKind.u64.wrap (a0_7))).bind fun t256 => (if (((((((⟨#[108, 111, 100, 101]⟩ : ByteArray) ++ t249) ++ t250) ++ t251) ++ t252) ++ (t253 ++ t254)) ++ t255).size + t256.size ≤ 9223372036854775807 then (if ((((((((⟨#[108, 111, 100, 101]⟩ : ByteArray) ++ t249) ++ t250) ++ t251) ++ t252) ++ (t253 ++ t254)) ++ t255) ++ t256).size + a0_8.size ≤ 9223372036854775807 then (some (((((((((⟨#[108, 111, 100, 101]⟩ : ByteArray) ++ t249) ++ t250) ++ t251) ++ t252) ++ (t253 ++ t254)) ++ t255) ++ t256) ++ a0_8)) else (none)) else (none))) else (none))) else (none)) else (none)))) else (none))) else (none))) else (none))) else (none))) else (some (⟨#[]⟩ : ByteArray))) = some r := H
  have A2 := Aside0.mk A20
  clear A20
  by_cases c3 : t248 = true
  · subst c3
    have H1 : ((lodestoneref04_Num.f k a0_0).bind fun t249 => (if 4 + t249.size ≤ 9223372036854775807 then ((lodestoneref04_High.f k (IntKind.u64.wrap (a0_1)) 4).bind fun t250 => (if ((⟨#[108, 111, 100, 101]⟩ : ByteArray) ++ t249).size + t250.size ≤ 9223372036854775807 then ((lodestoneref04_Bool.f a0_2).bind fun t251 => (if (((⟨#[108, 111, 100, 101]⟩ : ByteArray) ++ t249) ++ t250).size + t251.size ≤ 9223372036854775807 then ((lodestoneref04_Text.f k a0_3).bind fun t252 => (if ((((⟨#[108, 111, 100, 101]⟩ : ByteArray) ++ t249) ++ t250) ++ t251).size + t252.size ≤ 9223372036854775807 then ((lodestoneref04_Num.f k (IntKind.u64.wrap (wrap64 (a0_4 + 1)))).bind fun t253 => ((lodestoneref04_Text.f k a0_5).bind fun t254 => (if t253.size + t254.size ≤ 9223372036854775807 then (if (((((⟨#[108, 111, 100, 101]⟩ : ByteArray) ++ t249) ++ t250) ++ t251) ++ t252).size + (t253 ++ t254).size ≤ 9223372036854775807 then ((lodestoneref04_Num.f k (IntKind.u64.wrap (a0_6))).bind fun t255 => (if ((((((⟨#[108, 111, 100, 101]⟩ : ByteArray) ++ t249) ++ t250) ++ t251) ++ t252) ++ (t253 ++ t254)).size + t255.size ≤ 9223372036854775807 then ((lodestoneref04_Num.f k (IntKind.u64.wrap (a0_7))).bind fun t256 => (if (((((((⟨#[108, 111, 100, 101]⟩ : ByteArray) ++ t249) ++ t250) ++ t251) ++ t252) ++ (t253 ++ t254)) ++ t255).size + t256.size ≤ 9223372036854775807 then (if ((((((((⟨#[108, 111, 100, 101]⟩ : ByteArray) ++ t249) ++ t250) ++ t251) ++ t252) ++ (t253 ++ t254)) ++ t255) ++ t256).size + a0_8.size ≤ 9223372036854775807 then (some (((((((((⟨#[108, 111, 100, 101]⟩ : ByteArray) ++ t249) ++ t250) ++ t251) ++ t252) ++ (t253 ++ t254)) ++ t255) ++ t256) ++ a0_8)) else (none)) else (none))) else (none))) else (none)) else (none)))) else (none))) else (none))) else (none))) else (none))) = some r := by rw [if_pos rfl] at H; exact H
    clear H
    have H := H1
    clear H1
    replace H := Option.bind_eq_some_iff.mp H
    obtain ⟨t249, A40, H⟩ := H
    replace H : (if 4 + t249.size ≤ 9223372036854775807 then ((lodestoneref04_High.f k (IntKind.u64.wrap (a0_1)) 4).bind fun t250 => (if ((⟨#[108, 111, 100, 101]⟩ : ByteArray) ++ t249).size + t250.size ≤ 9223372036854775807 then ((lodestoneref04_Bool.f a0_2).bind fun t251 => (if (((⟨#[108, 111, 100, 101]⟩ : ByteArray) ++ t249) ++ t250).size + t251.size ≤ 9223372036854775807 then ((lodestoneref04_Text.f k a0_3).bind fun t252 => (if ((((⟨#[108, 111, 100, 101]⟩ : ByteArray) ++ t249) ++ t250) ++ t251).size + t252.size ≤ 9223372036854775807 then ((lodestoneref04_Num.f k (IntKind.u64.wrap (wrap64 (a0_4 + 1)))).bind fun t253 => ((lodestoneref04_Text.f k a0_5).bind fun t254 => (if t253.size + t254.size ≤ 9223372036854775807 then (if (((((⟨#[108, 111, 100, 101]⟩ : ByteArray) ++ t249) ++ t250) ++ t251) ++ t252).size + (t253 ++ t254).size ≤ 9223372036854775807 then ((lodestoneref04_Num.f k (IntKind.u64.wrap (a0_6))).bind fun t255 => (if ((((((⟨#[108, 111, 100, 101]⟩ : ByteArray) ++ t249) ++ t250) ++ t251) ++ t252) ++ (t253 ++ t254)).size + t255.size ≤ 9223372036854775807 then ((lodestoneref04_Num.f k (IntKind.u64.wrap (a0_7))).bind fun t256 => (if (((((((⟨#[108, 111, 100, 101]⟩ : ByteArray) ++ t249) ++ t250) ++ t251) ++ t252) ++ (t253 ++ t254)) ++ t255).size + t256.size ≤ 9223372036854775807 then (if ((((((((⟨#[108, 111, 100, 101]⟩ : ByteArray) ++ t249) ++ t250) ++ t251) ++ t252) ++ (t253 ++ t254)) ++ t255) ++ t256).size + a0_8.size ≤ 9223372036854775807 then (some (((((((((⟨#[108, 111, 100, 101]⟩ : ByteArray) ++ t249) ++ t250) ++ t251) ++ t252) ++ (t253 ++ t254)) ++ t255) ++ t256) ++ a0_8)) else (none)) else (none))) else (none))) else (none)) else (none)))) else (none))) else (none))) else (none))) else (none)) = some r := H
    have A4 := Aside0.mk A40
    clear A40
    by_cases c5 : 4 + t249.size ≤ 9223372036854775807
    · rw [if_pos c5] at H
      have c5b0 := eq_true c5
      have c5b1 : decide (4 + t249.size ≤ 9223372036854775807) = true := decide_eq_true c5
      try have c5b2 : (9223372036854775807 < 4 + t249.size) = False := eq_false (Nat.not_lt.2 c5)
      replace H := Option.bind_eq_some_iff.mp H
      obtain ⟨t250, A60, H⟩ := H
      replace H : (if ((⟨#[108, 111, 100, 101]⟩ : ByteArray) ++ t249).size + t250.size ≤ 9223372036854775807 then ((lodestoneref04_Bool.f a0_2).bind fun t251 => (if (((⟨#[108, 111, 100, 101]⟩ : ByteArray) ++ t249) ++ t250).size + t251.size ≤ 9223372036854775807 then ((lodestoneref04_Text.f k a0_3).bind fun t252 => (if ((((⟨#[108, 111, 100, 101]⟩ : ByteArray) ++ t249) ++ t250) ++ t251).size + t252.size ≤ 9223372036854775807 then ((lodestoneref04_Num.f k (IntKind.u64.wrap (wrap64 (a0_4 + 1)))).bind fun t253 => ((lodestoneref04_Text.f k a0_5).bind fun t254 => (if t253.size + t254.size ≤ 9223372036854775807 then (if (((((⟨#[108, 111, 100, 101]⟩ : ByteArray) ++ t249) ++ t250) ++ t251) ++ t252).size + (t253 ++ t254).size ≤ 9223372036854775807 then ((lodestoneref04_Num.f k (IntKind.u64.wrap (a0_6))).bind fun t255 => (if ((((((⟨#[108, 111, 100, 101]⟩ : ByteArray) ++ t249) ++ t250) ++ t251) ++ t252) ++ (t253 ++ t254)).size + t255.size ≤ 9223372036854775807 then ((lodestoneref04_Num.f k (IntKind.u64.wrap (a0_7))).bind fun t256 => (if (((((((⟨#[108, 111, 100, 101]⟩ : ByteArray) ++ t249) ++ t250) ++ t251) ++ t252) ++ (t253 ++ t254)) ++ t255).size + t256.size ≤ 9223372036854775807 then (if ((((((((⟨#[108, 111, 100, 101]⟩ : ByteArray) ++ t249) ++ t250) ++ t251) ++ t252) ++ (t253 ++ t254)) ++ t255) ++ t256).size + a0_8.size ≤ 9223372036854775807 then (some (((((((((⟨#[108, 111, 100, 101]⟩ : ByteArray) ++ t249) ++ t250) ++ t251) ++ t252) ++ (t253 ++ t254)) ++ t255) ++ t256) ++ a0_8)) else (none)) else (none))) else (none))) else (none)) else (none)))) else (none))) else (none))) else (none)) = some r := H
      have A6 := Aside0.mk A60
      clear A60
      by_cases c7 : ((⟨#[108, 111, 100, 101]⟩ : ByteArray) ++ t249).size + t250.size ≤ 9223372036854775807
      · rw [if_pos c7] at H
        have c7b0 := eq_true c7
        have c7b1 : decide (((⟨#[108, 111, 100, 101]⟩ : ByteArray) ++ t249).size + t250.size ≤ 9223372036854775807) = true := decide_eq_true c7
        try have c7b2 : (9223372036854775807 < ((⟨#[108, 111, 100, 101]⟩ : ByteArray) ++ t249).size + t250.size) = False := eq_false (Nat.not_lt.2 c7)
        have c7q := c7
        simp only [ByteArray.size_append, show (⟨#[108, 111, 100, 101]⟩ : ByteArray).size = 4 from rfl] at c7q
        have c7b9 := eq_false (Nat.not_lt.2 c7q)
        clear c7q
        replace H := Option.bind_eq_some_iff.mp H
        obtain ⟨t251, A80, H⟩ := H
        replace H : (if (((⟨#[108, 111, 100, 101]⟩ : ByteArray) ++ t249) ++ t250).size + t251.size ≤ 9223372036854775807 then ((lodestoneref04_Text.f k a0_3).bind fun t252 => (if ((((⟨#[108, 111, 100, 101]⟩ : ByteArray) ++ t249) ++ t250) ++ t251).size + t252.size ≤ 9223372036854775807 then ((lodestoneref04_Num.f k (IntKind.u64.wrap (wrap64 (a0_4 + 1)))).bind fun t253 => ((lodestoneref04_Text.f k a0_5).bind fun t254 => (if t253.size + t254.size ≤ 9223372036854775807 then (if (((((⟨#[108, 111, 100, 101]⟩ : ByteArray) ++ t249) ++ t250) ++ t251) ++ t252).size + (t253 ++ t254).size ≤ 9223372036854775807 then ((lodestoneref04_Num.f k (IntKind.u64.wrap (a0_6))).bind fun t255 => (if ((((((⟨#[108, 111, 100, 101]⟩ : ByteArray) ++ t249) ++ t250) ++ t251) ++ t252) ++ (t253 ++ t254)).size + t255.size ≤ 9223372036854775807 then ((lodestoneref04_Num.f k (IntKind.u64.wrap (a0_7))).bind fun t256 => (if (((((((⟨#[108, 111, 100, 101]⟩ : ByteArray) ++ t249) ++ t250) ++ t251) ++ t252) ++ (t253 ++ t254)) ++ t255).size + t256.size ≤ 9223372036854775807 then (if ((((((((⟨#[108, 111, 100, 101]⟩ : ByteArray) ++ t249) ++ t250) ++ t251) ++ t252) ++ (t253 ++ t254)) ++ t255) ++ t256).size + a0_8.size ≤ 9223372036854775807 then (some (((((((((⟨#[108, 111, 100, 101]⟩ : ByteArray) ++ t249) ++ t250) ++ t251) ++ t252) ++ (t253 ++ t254)) ++ t255) ++ t256) ++ a0_8)) else (none)) else (none))) else (none))) else (none)) else (none)))) else (none))) else (none)) = some r := H
        have A8 := Aside0.mk A80
        clear A80
        by_cases c9 : (((⟨#[108, 111, 100, 101]⟩ : ByteArray) ++ t249) ++ t250).size + t251.size ≤ 9223372036854775807
        · rw [if_pos c9] at H
          have c9b0 := eq_true c9
          have c9b1 : decide ((((⟨#[108, 111, 100, 101]⟩ : ByteArray) ++ t249) ++ t250).size + t251.size ≤ 9223372036854775807) = true := decide_eq_true c9
          try have c9b2 : (9223372036854775807 < (((⟨#[108, 111, 100, 101]⟩ : ByteArray) ++ t249) ++ t250).size + t251.size) = False := eq_false (Nat.not_lt.2 c9)
          have c9q := c9
          simp only [ByteArray.size_append, show (⟨#[108, 111, 100, 101]⟩ : ByteArray).size = 4 from rfl] at c9q
          have c9b9 := eq_false (Nat.not_lt.2 c9q)
          clear c9q
          replace H := Option.bind_eq_some_iff.mp H
          obtain ⟨t252, A100, H⟩ := H
          replace H : (if ((((⟨#[108, 111, 100, 101]⟩ : ByteArray) ++ t249) ++ t250) ++ t251).size + t252.size ≤ 9223372036854775807 then ((lodestoneref04_Num.f k (IntKind.u64.wrap (wrap64 (a0_4 + 1)))).bind fun t253 => ((lodestoneref04_Text.f k a0_5).bind fun t254 => (if t253.size + t254.size ≤ 9223372036854775807 then (if (((((⟨#[108, 111, 100, 101]⟩ : ByteArray) ++ t249) ++ t250) ++ t251) ++ t252).size + (t253 ++ t254).size ≤ 9223372036854775807 then ((lodestoneref04_Num.f k (IntKind.u64.wrap (a0_6))).bind fun t255 => (if ((((((⟨#[108, 111, 100, 101]⟩ : ByteArray) ++ t249) ++ t250) ++ t251) ++ t252) ++ (t253 ++ t254)).size + t255.size ≤ 9223372036854775807 then ((lodestoneref04_Num.f k (IntKind.u64.wrap (a0_7))).bind fun t256 => (if (((((((⟨#[108, 111, 100, 101]⟩ : ByteArray) ++ t249) ++ t250) ++ t251) ++ t252) ++ (t253 ++ t254)) ++ t255).size + t256.size ≤ 9223372036854775807 then (if ((((((((⟨#[108, 111, 100, 101]⟩ : ByteArray) ++ t249) ++ t250) ++ t251) ++ t252) ++ (t253 ++ t254)) ++ t255) ++ t256).size + a0_8.size ≤ 9223372036854775807 then (some (((((((((⟨#[108, 111, 100, 101]⟩ : ByteArray) ++ t249) ++ t250) ++ t251) ++ t252) ++ (t253 ++ t254)) ++ t255) ++ t256) ++ a0_8)) else (none)) else (none))) else (none))) else (none)) else (none)))) else (none)) = some r := H
          have A10 := Aside0.mk A100
          clear A100
          by_cases c11 : ((((⟨#[108, 111, 100, 101]⟩ : ByteArray) ++ t249) ++ t250) ++ t251).size + t252.size ≤ 9223372036854775807
          · rw [if_pos c11] at H
            have c11b0 := eq_true c11
            have c11b1 : decide (((((⟨#[108, 111, 100, 101]⟩ : ByteArray) ++ t249) ++ t250) ++ t251).size + t252.size ≤ 9223372036854775807) = true := decide_eq_true c11
            try have c11b2 : (9223372036854775807 < ((((⟨#[108, 111, 100, 101]⟩ : ByteArray) ++ t249) ++ t250) ++ t251).size + t252.size) = False := eq_false (Nat.not_lt.2 c11)
            have c11q := c11
            simp only [ByteArray.size_append, show (⟨#[108, 111, 100, 101]⟩ : ByteArray).size = 4 from rfl] at c11q
            have c11b9 := eq_false (Nat.not_lt.2 c11q)
            clear c11q
            replace H := Option.bind_eq_some_iff.mp H
            obtain ⟨t253, A120, H⟩ := H
            replace H : ((lodestoneref04_Text.f k a0_5).bind fun t254 => (if t253.size + t254.size ≤ 9223372036854775807 then (if (((((⟨#[108, 111, 100, 101]⟩ : ByteArray) ++ t249) ++ t250) ++ t251) ++ t252).size + (t253 ++ t254).size ≤ 9223372036854775807 then ((lodestoneref04_Num.f k (IntKind.u64.wrap (a0_6))).bind fun t255 => (if ((((((⟨#[108, 111, 100, 101]⟩ : ByteArray) ++ t249) ++ t250) ++ t251) ++ t252) ++ (t253 ++ t254)).size + t255.size ≤ 9223372036854775807 then ((lodestoneref04_Num.f k (IntKind.u64.wrap (a0_7))).bind fun t256 => (if (((((((⟨#[108, 111, 100, 101]⟩ : ByteArray) ++ t249) ++ t250) ++ t251) ++ t252) ++ (t253 ++ t254)) ++ t255).size + t256.size ≤ 9223372036854775807 then (if ((((((((⟨#[108, 111, 100, 101]⟩ : ByteArray) ++ t249) ++ t250) ++ t251) ++ t252) ++ (t253 ++ t254)) ++ t255) ++ t256).size + a0_8.size ≤ 9223372036854775807 then (some (((((((((⟨#[108, 111, 100, 101]⟩ : ByteArray) ++ t249) ++ t250) ++ t251) ++ t252) ++ (t253 ++ t254)) ++ t255) ++ t256) ++ a0_8)) else (none)) else (none))) else (none))) else (none)) else (none))) = some r := H
            have A12 := Aside0.mk A120
            clear A120
            replace H := Option.bind_eq_some_iff.mp H
            obtain ⟨t254, A130, H⟩ := H
            replace H : (if t253.size + t254.size ≤ 9223372036854775807 then (if (((((⟨#[108, 111, 100, 101]⟩ : ByteArray) ++ t249) ++ t250) ++ t251) ++ t252).size + (t253 ++ t254).size ≤ 9223372036854775807 then ((lodestoneref04_Num.f k (IntKind.u64.wrap (a0_6))).bind fun t255 => (if ((((((⟨#[108, 111, 100, 101]⟩ : ByteArray) ++ t249) ++ t250) ++ t251) ++ t252) ++ (t253 ++ t254)).size + t255.size ≤ 9223372036854775807 then ((lodestoneref04_Num.f k (IntKind.u64.wrap (a0_7))).bind fun t256 => (if (((((((⟨#[108, 111, 100, 101]⟩ : ByteArray) ++ t249) ++ t250) ++ t251) ++ t252) ++ (t253 ++ t254)) ++ t255).size + t256.size ≤ 9223372036854775807 then (if ((((((((⟨#[108, 111, 100, 101]⟩ : ByteArray) ++ t249) ++ t250) ++ t251) ++ t252) ++ (t253 ++ t254)) ++ t255) ++ t256).size + a0_8.size ≤ 9223372036854775807 then (some (((((((((⟨#[108, 111, 100, 101]⟩ : ByteArray) ++ t249) ++ t250) ++ t251) ++ t252) ++ (t253 ++ t254)) ++ t255) ++ t256) ++ a0_8)) else (none)) else (none))) else (none))) else (none)) else (none)) = some r := H
            have A13 := Aside0.mk A130
            clear A130
            by_cases c14 : t253.size + t254.size ≤ 9223372036854775807
            · rw [if_pos c14] at H
              have c14b0 := eq_true c14
              have c14b1 : decide (t253.size + t254.size ≤ 9223372036854775807) = true := decide_eq_true c14
              try have c14b2 : (9223372036854775807 < t253.size + t254.size) = False := eq_false (Nat.not_lt.2 c14)
              by_cases c15 : (((((⟨#[108, 111, 100, 101]⟩ : ByteArray) ++ t249) ++ t250) ++ t251) ++ t252).size + (t253 ++ t254).size ≤ 9223372036854775807
              · rw [if_pos c15] at H
                have c15b0 := eq_true c15
                have c15b1 : decide ((((((⟨#[108, 111, 100, 101]⟩ : ByteArray) ++ t249) ++ t250) ++ t251) ++ t252).size + (t253 ++ t254).size ≤ 9223372036854775807) = true := decide_eq_true c15
                try have c15b2 : (9223372036854775807 < (((((⟨#[108, 111, 100, 101]⟩ : ByteArray) ++ t249) ++ t250) ++ t251) ++ t252).size + (t253 ++ t254).size) = False := eq_false (Nat.not_lt.2 c15)
                have c15q := c15
                simp only [ByteArray.size_append, show (⟨#[108, 111, 100, 101]⟩ : ByteArray).size = 4 from rfl] at c15q
                have c15b9 := eq_false (Nat.not_lt.2 c15q)
                clear c15q
                replace H := Option.bind_eq_some_iff.mp H
                obtain ⟨t255, A160, H⟩ := H
                replace H : (if ((((((⟨#[108, 111, 100, 101]⟩ : ByteArray) ++ t249) ++ t250) ++ t251) ++ t252) ++ (t253 ++ t254)).size + t255.size ≤ 9223372036854775807 then ((lodestoneref04_Num.f k (IntKind.u64.wrap (a0_7))).bind fun t256 => (if (((((((⟨#[108, 111, 100, 101]⟩ : ByteArray) ++ t249) ++ t250) ++ t251) ++ t252) ++ (t253 ++ t254)) ++ t255).size + t256.size ≤ 9223372036854775807 then (if ((((((((⟨#[108, 111, 100, 101]⟩ : ByteArray) ++ t249) ++ t250) ++ t251) ++ t252) ++ (t253 ++ t254)) ++ t255) ++ t256).size + a0_8.size ≤ 9223372036854775807 then (some (((((((((⟨#[108, 111, 100, 101]⟩ : ByteArray) ++ t249) ++ t250) ++ t251) ++ t252) ++ (t253 ++ t254)) ++ t255) ++ t256) ++ a0_8)) else (none)) else (none))) else (none)) = some r := H
                have A16 := Aside0.mk A160
                clear A160
                by_cases c17 : ((((((⟨#[108, 111, 100, 101]⟩ : ByteArray) ++ t249) ++ t250) ++ t251) ++ t252) ++ (t253 ++ t254)).size + t255.size ≤ 9223372036854775807
                · rw [if_pos c17] at H
                  have c17b0 := eq_true c17
                  have c17b1 : decide (((((((⟨#[108, 111, 100, 101]⟩ : ByteArray) ++ t249) ++ t250) ++ t251) ++ t252) ++ (t253 ++ t254)).size + t255.size ≤ 9223372036854775807) = true := decide_eq_true c17
                  try have c17b2 : (9223372036854775807 < ((((((⟨#[108, 111, 100, 101]⟩ : ByteArray) ++ t249) ++ t250) ++ t251) ++ t252) ++ (t253 ++ t254)).size + t255.size) = False := eq_false (Nat.not_lt.2 c17)
                  have c17q := c17
                  simp only [ByteArray.size_append, show (⟨#[108, 111, 100, 101]⟩ : ByteArray).size = 4 from rfl] at c17q
                  have c17b9 := eq_false (Nat.not_lt.2 c17q)
                  clear c17q
                  replace H := Option.bind_eq_some_iff.mp H
                  obtain ⟨t256, A180, H⟩ := H
                  replace H : (if (((((((⟨#[108, 111, 100, 101]⟩ : ByteArray) ++ t249) ++ t250) ++ t251) ++ t252) ++ (t253 ++ t254)) ++ t255).size + t256.size ≤ 9223372036854775807 then (if ((((((((⟨#[108, 111, 100, 101]⟩ : ByteArray) ++ t249) ++ t250) ++ t251) ++ t252) ++ (t253 ++ t254)) ++ t255) ++ t256).size + a0_8.size ≤ 9223372036854775807 then (some (((((((((⟨#[108, 111, 100, 101]⟩ : ByteArray) ++ t249) ++ t250) ++ t251) ++ t252) ++ (t253 ++ t254)) ++ t255) ++ t256) ++ a0_8)) else (none)) else (none)) = some r := H
                  have A18 := Aside0.mk A180
                  clear A180
                  by_cases c19 : (((((((⟨#[108, 111, 100, 101]⟩ : ByteArray) ++ t249) ++ t250) ++ t251) ++ t252) ++ (t253 ++ t254)) ++ t255).size + t256.size ≤ 9223372036854775807
                  · rw [if_pos c19] at H
                    have c19b0 := eq_true c19
                    have c19b1 : decide ((((((((⟨#[108, 111, 100, 101]⟩ : ByteArray) ++ t249) ++ t250) ++ t251) ++ t252) ++ (t253 ++ t254)) ++ t255).size + t256.size ≤ 9223372036854775807) = true := decide_eq_true c19
                    try have c19b2 : (9223372036854775807 < (((((((⟨#[108, 111, 100, 101]⟩ : ByteArray) ++ t249) ++ t250) ++ t251) ++ t252) ++ (t253 ++ t254)) ++ t255).size + t256.size) = False := eq_false (Nat.not_lt.2 c19)
                    have c19q := c19
                    simp only [ByteArray.size_append, show (⟨#[108, 111, 100, 101]⟩ : ByteArray).size = 4 from rfl] at c19q
                    have c19b9 := eq_false (Nat.not_lt.2 c19q)
                    clear c19q
                    by_cases c20 : ((((((((⟨#[108, 111, 100, 101]⟩ : ByteArray) ++ t249) ++ t250) ++ t251) ++ t252) ++ (t253 ++ t254)) ++ t255) ++ t256).size + a0_8.size ≤ 9223372036854775807
                    · rw [if_pos c20] at H
                      have c20b0 := eq_true c20
                      have c20b1 : decide (((((((((⟨#[108, 111, 100, 101]⟩ : ByteArray) ++ t249) ++ t250) ++ t251) ++ t252) ++ (t253 ++ t254)) ++ t255) ++ t256).size + a0_8.size ≤ 9223372036854775807) = true := decide_eq_true c20
                      try have c20b2 : (9223372036854775807 < ((((((((⟨#[108, 111, 100, 101]⟩ : ByteArray) ++ t249) ++ t250) ++ t251) ++ t252) ++ (t253 ++ t254)) ++ t255) ++ t256).size + a0_8.size) = False := eq_false (Nat.not_lt.2 c20)
                      have c20q := c20
                      simp only [ByteArray.size_append, show (⟨#[108, 111, 100, 101]⟩ : ByteArray).size = 4 from rfl] at c20q
                      have c20b9 := eq_false (Nat.not_lt.2 c20q)
                      clear c20q
                      obtain rfl := Option.some.inj H
                      go_enter Try.func9, Try.ntmps9
                      try go_wp2_with (first | ((with_reducible refine gate_dst (N := 1) rfl ?_); refine box_event ?hg (N := 1) ?hd (cs := #[.int .u64 a0_0, .int .u32 a0_1, .bool a0_2, .string a0_3, .int .i64 a0_4, .string a0_5, .int .i64 a0_6, .int .i64 a0_7, .string a0_8]) (t := 27) ?hr ?_; (case hd => rfl); (case hg => rfl); (case hr => first | (go_simp; done) | (go_simp; rfl)); intro gb247 hg w21 hbox hb; have n0_ := Aside0.mk (below_step (by repeat (first | (with_reducible first | exact HB.out | apply below_alloc | apply pw_below_drewN | apply below_drew1) | exact HB.out)) hb); have n1_ := Aside0.mk (hbox); have n2_ := Aside0.mk ((by rw [hg]; exact (below_size (by repeat (first | (with_reducible first | exact HB.out | apply below_alloc | apply pw_below_drewN | apply below_drew1) | exact HB.out))) : w.heap.size ≤ gb247)); have n3_ := Aside0.mk ((by rw [hg]; exact (below_size (by repeat (first | (with_reducible first | exact HB.out | apply below_alloc | apply pw_below_drewN | apply below_drew1) | exact HB.out))) : w.heap.size ≤ gb247)); clear HB; have HB := n0_; have BK247 := n1_; have GW247 := n2_; have GE247 := n3_; clear n0_ n1_ n2_ n3_; clear hb hbox hg; have hcz22_0 : w21.cell? ⟨gb247, 0, none⟩ = some (.int .u64 a0_0) := (blk_cell BK247.out 0).trans rfl; have hcz22_1 : w21.cell? ⟨gb247, 1, none⟩ = some (.int .u32 a0_1) := (blk_cell BK247.out 1).trans rfl; have hcz22_2 : w21.cell? ⟨gb247, 2, none⟩ = some (.bool a0_2) := (blk_cell BK247.out 2).trans rfl; have hcz22_3 : w21.cell? ⟨gb247, 3, none⟩ = some (.string a0_3) := (blk_cell BK247.out 3).trans rfl; have hcz22_4 : w21.cell? ⟨gb247, 4, none⟩ = some (.int .i64 a0_4) := (blk_cell BK247.out 4).trans rfl; have hcz22_5 : w21.cell? ⟨gb247, 5, none⟩ = some (.string a0_5) := (blk_cell BK247.out 5).trans rfl; have hcz22_6 : w21.cell? ⟨gb247, 6, none⟩ = some (.int .i64 a0_6) := (blk_cell BK247.out 6).trans rfl; have hcz22_7 : w21.cell? ⟨gb247, 7, none⟩ = some (.int .i64 a0_7) := (blk_cell BK247.out 7).trans rfl; have hcz22_8 : w21.cell? ⟨gb247, 8, none⟩ = some (.string a0_8) := (blk_cell BK247.out 8).trans rfl; have hfz22_0 := blk_frozen BK247.out 0; have hfz22_1 := blk_frozen BK247.out 1; have hfz22_2 := blk_frozen BK247.out 2; have hfz22_3 := blk_frozen BK247.out 3; have hfz22_4 := blk_frozen BK247.out 4; have hfz22_5 := blk_frozen BK247.out 5; have hfz22_6 := blk_frozen BK247.out 6; have hfz22_7 := blk_frozen BK247.out 7; have hfz22_8 := blk_frozen BK247.out 8) | ((with_reducible refine gate_callee (f := 27) rfl ?_); refine goesL_ (some 5) rfl rfl Try.func27 (by kernel_rfl) rfl #[.agg #[.int .u64 a0_0, .int .u32 a0_1, .bool a0_2, .string a0_3, .int .i64 a0_4, .string a0_5, .int .i64 a0_6, .int .i64 a0_7, .string a0_8]] rfl (by (try simp only [List.map_toArray, List.map_cons, List.map_nil]); first | done | rfl | (simp only [List.length_drop, List.length_take]; rfl)) ?_; (with_reducible refine (lodestoneref12_May.calls a0_0 a0_1 a0_2 a0_3 a0_4 a0_5 a0_6 a0_7 a0_8 true _ A2.out).mono ?_); rintro e w23 ⟨rfl, hb⟩; refine ⟨_, rfl, ?_⟩; have n0_ := Aside0.mk (blk_below (g := gb247) (o := .cells #[.int .u64 a0_0, .int .u32 a0_1, .bool a0_2, .string a0_3, .int .i64 a0_4, .string a0_5, .int .i64 a0_6, .int .i64 a0_7, .string a0_8] 27 (0, 0)) (by (with_reducible repeat (first | refine blk_drewN ?_ _ | refine blk_drew ?_ | refine blk_alloc ?_ _)); exact BK247.out) hb); have n1_ := Aside0.mk (below_step (by repeat (first | (with_reducible first | exact HB.out | apply below_alloc | apply pw_below_drewN | apply below_drew1 | refine below_set ?_ GE247.out) | exact HB.out)) hb); clear BK247; clear HB; have BK247 := n0_; have HB := n1_; clear n0_ n1_; (try clear hb); (try clear hb2); (try clear hk); (try clear hi)))
                      have n0_ := Aside0.mk (blk_drew BK247.out)
                      have n1_ := Aside0.mk (below_drew1 HB.out)
                      clear BK247
                      clear HB
                      have BK247 := n0_
                      have HB := n1_
                      clear n0_ n1_
                      refine start_ (n := 18) (S := fun w' => w'.cell? ⟨gb247, 0, none⟩ = some (.int .u64 a0_0) ∧ w'.cell? ⟨gb247, 1, none⟩ = some (.int .u32 a0_1) ∧ w'.cell? ⟨gb247, 2, none⟩ = some (.bool a0_2) ∧ w'.cell? ⟨gb247, 3, none⟩ = some (.string a0_3) ∧ w'.cell? ⟨gb247, 4, none⟩ = some (.int .i64 a0_4) ∧ w'.cell? ⟨gb247, 5, none⟩ = some (.string a0_5) ∧ w'.cell? ⟨gb247, 6, none⟩ = some (.int .i64 a0_6) ∧ w'.cell? ⟨gb247, 7, none⟩ = some (.int .i64 a0_7) ∧ w'.cell? ⟨gb247, 8, none⟩ = some (.string a0_8)) (ds := []) #[false, false, false, false, false, false, false, false, false, false, false, false, false, false, false, false, false, false] (by kernel_rfl) rfl rfl ⟨(blk_cell BK247.out 0).trans rfl, (blk_cell BK247.out 1).trans rfl, (blk_cell BK247.out 2).trans rfl, (blk_cell BK247.out 3).trans rfl, (blk_cell BK247.out 4).trans rfl, (blk_cell BK247.out 5).trans rfl, (blk_cell BK247.out 6).trans rfl, (blk_cell BK247.out 7).trans rfl, (blk_cell BK247.out 8).trans rfl⟩ (fun hHeld => ?_); refine with_tabW lodestoneref12_Put.tab3 lodestoneref12_Put.bits3 (fun HT_ HW_ => ?_)
                      generalize w23.drew = w24 at BK247 HB hHeld ⊢
                      refine pure_ (i := 0) (N := some 7) (v := ?_) (a' := ?_) #[true, false, false, false, false, false, false, false, false, false, false, false, false, false, false, false, false, false] rfl rfl (any_of HT_.out (by kernel_rfl)) (fun _ _ _ h => h) (Or.inl ⟨by rfl, ?_⟩) ?_ ?_
                      rotate_left
                      · intro w'
                        go_simp
                        with_reducible rfl
                      rotate_left
                      · simp only [Act.put, List.setIfInBounds_toArray, List.set_cons_zero, List.set_cons_succ, i64_w, i32_w]
                        rfl
                      refine pure_ (i := 4) (N := some 11) (v := ?_) (a' := ?_) #[true, false, false, false, true, false, false, false, false, false, false, false, false, false, false, false, false, false] rfl rfl (any_of HT_.out (by kernel_rfl)) (fun _ _ _ h => h) (Or.inl ⟨by rfl, ?_⟩) ?_ ?_
                      rotate_left
                      · intro w'
                        go_simp
                        with_reducible rfl
                      rotate_left
                      · simp only [Act.put, List.setIfInBounds_toArray, List.set_cons_zero, List.set_cons_succ, i64_w, i32_w]
                        rfl
                      refine pure_ (i := 9) (N := some 16) (v := ?_) (a' := ?_) #[true, false, false, false, true, false, false, false, false, true, false, false, false, false, false, false, false, false] rfl rfl (any_of HT_.out (by kernel_rfl)) (fun _ _ _ h => h) (Or.inl ⟨by rfl, ?_⟩) ?_ ?_
                      rotate_left
                      · intro w'
                        go_simp
                        with_reducible rfl
                      rotate_left
                      · simp only [Act.put, List.setIfInBounds_toArray, List.set_cons_zero, List.set_cons_succ, i64_w, i32_w]
                        rfl
                      refine pure_ (i := 13) (N := some 20) (v := ?_) (a' := ?_) #[true, false, false, false, true, false, false, false, false, true, false, false, false, true, false, false, false, false] rfl rfl (any_of HT_.out (by kernel_rfl)) (fun _ _ _ h => h) (Or.inl ⟨by rfl, ?_⟩) ?_ ?_
                      rotate_left
                      · intro w'
                        go_simp
                        with_reducible rfl
                      rotate_left
                      · simp only [Act.put, List.setIfInBounds_toArray, List.set_cons_zero, List.set_cons_succ, i64_w, i32_w]
                        rfl
                      refine take_ (i := 1) (N := some 8) (v := ?_) (a' := ?_) #[true, true, false, false, true, false, false, false, false, true, false, false, false, true, false, false, false, false] rfl rfl (take_ofW HT_.out HW_.out (by kernel_rfl)) (fun _ _ _ h => h) (Or.inl ⟨by rfl, ?_⟩) hHeld ?_ ?_
                      rotate_left
                      · rintro w' ⟨s0, s1, s2, s3, s4, s5, s6, s7, s8⟩
                        go_simp
                        with_reducible rfl
                      rotate_left
                      · simp only [Act.put, List.setIfInBounds_toArray, List.set_cons_zero, List.set_cons_succ, i64_w, i32_w]
                        rfl
                      refine take_ (i := 5) (N := some 12) (v := ?_) (a' := ?_) #[true, true, false, false, true, true, false, false, false, true, false, false, false, true, false, false, false, false] rfl rfl (take_ofW HT_.out HW_.out (by kernel_rfl)) (fun _ _ _ h => h) (Or.inl ⟨by rfl, ?_⟩) hHeld ?_ ?_
                      rotate_left
                      · rintro w' ⟨s0, s1, s2, s3, s4, s5, s6, s7, s8⟩
                        go_simp
                        with_reducible rfl
                      rotate_left
                      · simp only [Act.put, List.setIfInBounds_toArray, List.set_cons_zero, List.set_cons_succ, i64_w, i32_w]
                        rfl
                      refine pure_ (i := 6) (N := some 13) (v := ?_) (a' := ?_) #[true, true, false, false, true, true, true, false, false, true, false, false, false, true, false, false, false, false] rfl rfl (any_of HT_.out (by kernel_rfl)) (fun _ _ _ h => h) (Or.inl ⟨by rfl, ?_⟩) ?_ ?_
                      rotate_left
                      · intro w'
                        go_simp
                        with_reducible rfl
                      rotate_left
                      · simp only [Act.put, List.setIfInBounds_toArray, List.set_cons_zero, List.set_cons_succ, i64_w, i32_w]
                        rfl
                      refine take_ (i := 10) (N := some 17) (v := ?_) (a' := ?_) #[true, true, false, false, true, true, true, false, false, true, true, false, false, true, false, false, false, false] rfl rfl (take_ofW HT_.out HW_.out (by kernel_rfl)) (fun _ _ _ h => h) (Or.inl ⟨by rfl, ?_⟩) hHeld ?_ ?_
                      rotate_left
                      · rintro w' ⟨s0, s1, s2, s3, s4, s5, s6, s7, s8⟩
                        go_simp
                        with_reducible rfl
                      rotate_left
                      · simp only [Act.put, List.setIfInBounds_toArray, List.set_cons_zero, List.set_cons_succ, i64_w, i32_w]
                        rfl
                      refine take_ (i := 14) (N := some 21) (v := ?_) (a' := ?_) #[true, true, false, false, true, true, true, false, false, true, true, false, false, true, true, false, false, false] rfl rfl (take_ofW HT_.out HW_.out (by kernel_rfl)) (fun _ _ _ h => h) (Or.inl ⟨by rfl, ?_⟩) hHeld ?_ ?_
                      rotate_left
                      · rintro w' ⟨s0, s1, s2, s3, s4, s5, s6, s7, s8⟩
                        go_simp
                        with_reducible rfl
                      rotate_left
                      · simp only [Act.put, List.setIfInBounds_toArray, List.set_cons_zero, List.set_cons_succ, i64_w, i32_w]
                        rfl
                      refine one_ (i := 2) (N := some 9) #[true, true, true, false, true, true, true, false, false, true, true, false, false, true, true, false, false, false] rfl rfl (one_of HT_.out (by kernel_rfl)) (by decide) (fun K hK => ?_)
                      refine goes_ Try.func12 (by kernel_rfl) rfl #[.int .u64 a0_0] (by rfl) rfl rfl (by (try simp only [List.map_toArray, List.map_cons, List.map_nil]); first | done | rfl | (simp only [List.length_drop, List.length_take]; rfl)) ?_
                      with_reducible refine (lodestoneref04_Num.calls k a0_0 t249 _ A4.out).mono ?_
                      rintro e w25 ⟨rfl, hb⟩
                      refine ⟨_, rfl, ?_⟩
                      have n0_ := Aside0.mk (blk_below (g := gb247) (o := .cells #[.int .u64 a0_0, .int .u32 a0_1, .bool a0_2, .string a0_3, .int .i64 a0_4, .string a0_5, .int .i64 a0_6, .int .i64 a0_7, .string a0_8] 27 (0, 0)) (by (with_reducible repeat (first | refine blk_drewN ?_ _ | refine blk_drew ?_ | refine blk_alloc ?_ _)); exact BK247.out) hb)
                      have n1_ := Aside0.mk (below_step (by repeat (first | (with_reducible first | exact HB.out | apply below_alloc | apply pw_below_drewN | apply below_drew1 | refine below_set ?_ GE247.out) | exact HB.out)) hb)
                      clear BK247
                      clear HB
                      have BK247 := n0_
                      have HB := n1_
                      clear n0_ n1_
                      (try clear hb)
                      (try clear hb2)
                      (try clear hk)
                      (try clear hi)
                      refine hK.out _ _ ⟨(blk_cell BK247.out 0).trans rfl, (blk_cell BK247.out 1).trans rfl, (blk_cell BK247.out 2).trans rfl, (blk_cell BK247.out 3).trans rfl, (blk_cell BK247.out 4).trans rfl, (blk_cell BK247.out 5).trans rfl, (blk_cell BK247.out 6).trans rfl, (blk_cell BK247.out 7).trans rfl, (blk_cell BK247.out 8).trans rfl⟩ (fun hHeld => ?_)
                      clear hK K
                      refine norm_ (a' := ?_) ?_ ?_
                      rotate_left
                      · show Act.put _ (some 9) _ = _
                        simp only [Act.put, List.setIfInBounds_toArray, List.set_cons_zero, List.set_cons_succ, i64_w, i32_w]
                        rfl
                      refine pure_ (i := 3) (N := some 10) (v := ?_) (a' := ?_) #[true, true, true, true, true, true, true, false, false, true, true, false, false, true, true, false, false, false] rfl rfl (any_of HT_.out (by kernel_rfl)) (fun _ _ _ h => h) (Or.inl ⟨by rfl, ?_⟩) ?_ ?_
                      rotate_left
                      · intro w'
                        go_simp
                        with_reducible rfl
                      rotate_left
                      · simp only [Act.put, List.setIfInBounds_toArray, List.set_cons_zero, List.set_cons_succ, i64_w, i32_w]
                        rfl
                      refine one_ (i := 7) (N := some 14) #[true, true, true, true, true, true, true, true, false, true, true, false, false, true, true, false, false, false] rfl rfl (one_of HT_.out (by kernel_rfl)) (by decide) (fun K hK => ?_)
                      refine goes_ Try.func28 (by kernel_rfl) rfl #[.int .u64 (IntKind.u64.wrap (a0_1)), .int .i64 4] (by rfl) rfl rfl (by (try simp only [List.map_toArray, List.map_cons, List.map_nil]); first | done | rfl | (simp only [List.length_drop, List.length_take]; rfl)) ?_
                      with_reducible refine (lodestoneref04_High.calls k (IntKind.u64.wrap (a0_1)) 4 t250 _ A6.out).mono ?_
                      rintro e w26 ⟨rfl, hb⟩
                      refine ⟨_, rfl, ?_⟩
                      have n0_ := Aside0.mk (blk_below (g := gb247) (o := .cells #[.int .u64 a0_0, .int .u32 a0_1, .bool a0_2, .string a0_3, .int .i64 a0_4, .string a0_5, .int .i64 a0_6, .int .i64 a0_7, .string a0_8] 27 (0, 0)) (by (with_reducible repeat (first | refine blk_drewN ?_ _ | refine blk_drew ?_ | refine blk_alloc ?_ _)); exact BK247.out) hb)
                      have n1_ := Aside0.mk (below_step (by repeat (first | (with_reducible first | exact HB.out | apply below_alloc | apply pw_below_drewN | apply below_drew1 | refine below_set ?_ GE247.out) | exact HB.out)) hb)
                      clear BK247
                      clear HB
                      have BK247 := n0_
                      have HB := n1_
                      clear n0_ n1_
                      (try clear hb)
                      (try clear hb2)
                      (try clear hk)
                      (try clear hi)
                      refine hK.out _ _ ⟨(blk_cell BK247.out 0).trans rfl, (blk_cell BK247.out 1).trans rfl, (blk_cell BK247.out 2).trans rfl, (blk_cell BK247.out 3).trans rfl, (blk_cell BK247.out 4).trans rfl, (blk_cell BK247.out 5).trans rfl, (blk_cell BK247.out 6).trans rfl, (blk_cell BK247.out 7).trans rfl, (blk_cell BK247.out 8).trans rfl⟩ (fun hHeld => ?_)
                      clear hK K
                      refine norm_ (a' := ?_) ?_ ?_
                      rotate_left
                      · show Act.put _ (some 14) _ = _
                        simp only [Act.put, List.setIfInBounds_toArray, List.set_cons_zero, List.set_cons_succ, i64_w, i32_w]
                        rfl
                      refine pure_ (i := 8) (N := some 15) (v := ?_) (a' := ?_) #[true, true, true, true, true, true, true, true, true, true, true, false, false, true, true, false, false, false] rfl rfl (any_of HT_.out (by kernel_rfl)) (fun _ _ _ h => h) (Or.inl ⟨by rfl, ?_⟩) ?_ ?_
                      rotate_left
                      · intro w'
                        go_simp
                        with_reducible rfl
                      rotate_left
                      · simp only [Act.put, List.setIfInBounds_toArray, List.set_cons_zero, List.set_cons_succ, i64_w, i32_w]
                        rfl
                      refine one_ (i := 11) (N := some 18) #[true, true, true, true, true, true, true, true, true, true, true, true, false, true, true, false, false, false] rfl rfl (one_of HT_.out (by kernel_rfl)) (by decide) (fun K hK => ?_)
                      refine goes_ Try.func29 (by kernel_rfl) rfl #[.bool a0_2] (by rfl) rfl rfl (by (try simp only [List.map_toArray, List.map_cons, List.map_nil]); first | done | rfl | (simp only [List.length_drop, List.length_take]; rfl)) ?_
                      with_reducible refine (lodestoneref04_Bool.calls a0_2 t251 _ A8.out).mono ?_
                      rintro e w' ⟨rfl, ⟨nd, rfl⟩⟩
                      refine ⟨_, rfl, ?_⟩
                      refine hK.out _ _ ⟨(blk_cell BK247.out 0).trans rfl, (blk_cell BK247.out 1).trans rfl, (blk_cell BK247.out 2).trans rfl, (blk_cell BK247.out 3).trans rfl, (blk_cell BK247.out 4).trans rfl, (blk_cell BK247.out 5).trans rfl, (blk_cell BK247.out 6).trans rfl, (blk_cell BK247.out 7).trans rfl, (blk_cell BK247.out 8).trans rfl⟩ (fun hHeld => ?_)
                      clear hK K
                      refine norm_ (a' := ?_) ?_ ?_
                      rotate_left
                      · show Act.put _ (some 18) _ = _
                        simp only [Act.put, List.setIfInBounds_toArray, List.set_cons_zero, List.set_cons_succ, i64_w, i32_w]
                        rfl
                      refine pure_ (i := 12) (N := some 19) (v := ?_) (a' := ?_) #[true, true, true, true, true, true, true, true, true, true, true, true, true, true, true, false, false, false] rfl rfl (any_of HT_.out (by kernel_rfl)) (fun _ _ _ h => h) (Or.inl ⟨by rfl, ?_⟩) ?_ ?_
                      rotate_left
                      · intro w'
                        go_simp
                        with_reducible rfl
                      rotate_left
                      · simp only [Act.put, List.setIfInBounds_toArray, List.set_cons_zero, List.set_cons_succ, i64_w, i32_w]
                        rfl
                      refine one_ (i := 15) (N := some 22) #[true, true, true, true, true, true, true, true, true, true, true, true, true, true, true, true, false, false] rfl rfl (one_of HT_.out (by kernel_rfl)) (by decide) (fun K hK => ?_)
                      refine goes_ Try.func30 (by kernel_rfl) rfl #[.string a0_3] (by rfl) rfl rfl (by (try simp only [List.map_toArray, List.map_cons, List.map_nil]); first | done | rfl | (simp only [List.length_drop, List.length_take]; rfl)) ?_
                      with_reducible refine (lodestoneref04_Text.calls k a0_3 t252 _ A10.out).mono ?_
                      rintro e w27 ⟨rfl, hb⟩
                      refine ⟨_, rfl, ?_⟩
                      have n0_ := Aside0.mk (blk_below (g := gb247) (o := .cells #[.int .u64 a0_0, .int .u32 a0_1, .bool a0_2, .string a0_3, .int .i64 a0_4, .string a0_5, .int .i64 a0_6, .int .i64 a0_7, .string a0_8] 27 (0, 0)) (by (with_reducible repeat (first | refine blk_drewN ?_ _ | refine blk_drew ?_ | refine blk_alloc ?_ _)); exact BK247.out) hb)
                      have n1_ := Aside0.mk (below_step (by repeat (first | (with_reducible first | exact HB.out | apply below_alloc | apply pw_below_drewN | apply below_drew1 | refine below_set ?_ GE247.out) | exact HB.out)) hb)
                      clear BK247
                      clear HB
                      have BK247 := n0_
                      have HB := n1_
                      clear n0_ n1_
                      (try clear hb)
                      (try clear hb2)
                      (try clear hk)
                      (try clear hi)
                      refine hK.out _ _ ⟨(blk_cell BK247.out 0).trans rfl, (blk_cell BK247.out 1).trans rfl, (blk_cell BK247.out 2).trans rfl, (blk_cell BK247.out 3).trans rfl, (blk_cell BK247.out 4).trans rfl, (blk_cell BK247.out 5).trans rfl, (blk_cell BK247.out 6).trans rfl, (blk_cell BK247.out 7).trans rfl, (blk_cell BK247.out 8).trans rfl⟩ (fun hHeld => ?_)
                      clear hK K
                      refine norm_ (a' := ?_) ?_ ?_
                      rotate_left
                      · show Act.put _ (some 22) _ = _
                        simp only [Act.put, List.setIfInBounds_toArray, List.set_cons_zero, List.set_cons_succ, i64_w, i32_w]
                        rfl
                      refine pure_ (i := 16) (N := some 23) (v := ?_) (a' := ?_) #[true, true, true, true, true, true, true, true, true, true, true, true, true, true, true, true, true, false] rfl rfl (any_of HT_.out (by kernel_rfl)) (fun _ _ _ h => h) (Or.inl ⟨by rfl, ?_⟩) ?_ ?_
                      rotate_left
                      · intro w'
                        go_simp
                        with_reducible rfl
                      rotate_left
                      · simp only [Act.put, List.setIfInBounds_toArray, List.set_cons_zero, List.set_cons_succ, i64_w, i32_w]
                        rfl
                      refine pure_ (i := 17) (N := some 3) (v := ?_) (a' := ?_) #[true, true, true, true, true, true, true, true, true, true, true, true, true, true, true, true, true, true] rfl rfl (any_of HT_.out (by kernel_rfl)) (fun _ _ _ h => h) (Or.inl ⟨by rfl, ?_⟩) ?_ ?_
                      rotate_left
                      · intro w'
                        go_simp
                        with_reducible rfl
                      rotate_left
                      · simp only [Act.put, List.setIfInBounds_toArray, List.set_cons_zero, List.set_cons_succ, i64_w, i32_w]
                        rfl
                      refine done_ (done_of HT_.out (by kernel_rfl)) ?_
                      try go_wp2
                      have n0_ := Aside0.mk (blk_drew BK247.out)
                      have n1_ := Aside0.mk (below_drew1 HB.out)
                      clear BK247
                      clear HB
                      have BK247 := n0_
                      have HB := n1_
                      clear n0_ n1_
                      refine start_ (n := 14) (S := fun w' => w'.cell? ⟨gb247, 0, none⟩ = some (.int .u64 a0_0) ∧ w'.cell? ⟨gb247, 1, none⟩ = some (.int .u32 a0_1) ∧ w'.cell? ⟨gb247, 2, none⟩ = some (.bool a0_2) ∧ w'.cell? ⟨gb247, 3, none⟩ = some (.string a0_3) ∧ w'.cell? ⟨gb247, 4, none⟩ = some (.int .i64 a0_4) ∧ w'.cell? ⟨gb247, 5, none⟩ = some (.string a0_5) ∧ w'.cell? ⟨gb247, 6, none⟩ = some (.int .i64 a0_6) ∧ w'.cell? ⟨gb247, 7, none⟩ = some (.int .i64 a0_7) ∧ w'.cell? ⟨gb247, 8, none⟩ = some (.string a0_8)) (ds := []) #[false, false, false, false, false, false, false, false, false, false, false, false, false, false] (by kernel_rfl) rfl rfl ⟨(blk_cell BK247.out 0).trans rfl, (blk_cell BK247.out 1).trans rfl, (blk_cell BK247.out 2).trans rfl, (blk_cell BK247.out 3).trans rfl, (blk_cell BK247.out 4).trans rfl, (blk_cell BK247.out 5).trans rfl, (blk_cell BK247.out 6).trans rfl, (blk_cell BK247.out 7).trans rfl, (blk_cell BK247.out 8).trans rfl⟩ (fun hHeld => ?_); refine with_tabW lodestoneref12_Put.tab4 lodestoneref12_Put.bits4 (fun HT_ HW_ => ?_)
                      generalize w27.drew = w28 at BK247 HB hHeld ⊢
                      refine pure_ (i := 0) (N := some 24) (v := ?_) (a' := ?_) #[true, false, false, false, false, false, false, false, false, false, false, false, false, false] rfl rfl (any_of HT_.out (by kernel_rfl)) (fun _ _ _ h => h) (Or.inl ⟨by rfl, ?_⟩) ?_ ?_
                      rotate_left
                      · intro w'
                        go_simp
                        with_reducible rfl
                      rotate_left
                      · simp only [Act.put, List.setIfInBounds_toArray, List.set_cons_zero, List.set_cons_succ, i64_w, i32_w]
                        rfl
                      refine pure_ (i := 1) (N := some 25) (v := ?_) (a' := ?_) #[true, true, false, false, false, false, false, false, false, false, false, false, false, false] rfl rfl (any_of HT_.out (by kernel_rfl)) (fun _ _ _ h => h) (Or.inl ⟨by rfl, ?_⟩) ?_ ?_
                      rotate_left
                      · intro w'
                        go_simp
                        with_reducible rfl
                      rotate_left
                      · simp only [Act.put, List.setIfInBounds_toArray, List.set_cons_zero, List.set_cons_succ, i64_w, i32_w]
                        rfl
                      refine pure_ (i := 2) (N := some 26) (v := ?_) (a' := ?_) #[true, true, true, false, false, false, false, false, false, false, false, false, false, false] rfl rfl (any_of HT_.out (by kernel_rfl)) (fun _ _ _ h => h) (Or.inl ⟨by rfl, ?_⟩) ?_ ?_
                      rotate_left
                      · intro w'
                        go_simp
                        with_reducible rfl
                      rotate_left
                      · simp only [Act.put, List.setIfInBounds_toArray, List.set_cons_zero, List.set_cons_succ, i64_w, i32_w]
                        rfl
                      refine pure_ (i := 7) (N := some 31) (v := ?_) (a' := ?_) #[true, true, true, false, false, false, false, true, false, false, false, false, false, false] rfl rfl (any_of HT_.out (by kernel_rfl)) (fun _ _ _ h => h) (Or.inl ⟨by rfl, ?_⟩) ?_ ?_
                      rotate_left
                      · intro w'
                        go_simp
                        with_reducible rfl
                      rotate_left
                      · simp only [Act.put, List.setIfInBounds_toArray, List.set_cons_zero, List.set_cons_succ, i64_w, i32_w]
                        rfl
                      refine pure_ (i := 8) (N := some 32) (v := ?_) (a' := ?_) #[true, true, true, false, false, false, false, true, true, false, false, false, false, false] rfl rfl (any_of HT_.out (by kernel_rfl)) (fun _ _ _ h => h) (Or.inl ⟨by rfl, ?_⟩) ?_ ?_
                      rotate_left
                      · intro w'
                        go_simp
                        with_reducible rfl
                      rotate_left
                      · simp only [Act.put, List.setIfInBounds_toArray, List.set_cons_zero, List.set_cons_succ, i64_w, i32_w]
                        rfl
                      refine take_ (i := 3) (N := some 27) (v := ?_) (a' := ?_) #[true, true, true, true, false, false, false, true, true, false, false, false, false, false] rfl rfl (take_ofW HT_.out HW_.out (by kernel_rfl)) (fun _ _ _ h => h) (Or.inl ⟨by rfl, ?_⟩) hHeld ?_ ?_
                      rotate_left
                      · rintro w' ⟨s0, s1, s2, s3, s4, s5, s6, s7, s8⟩
                        go_simp
                        with_reducible rfl
                      rotate_left
                      · simp only [Act.put, List.setIfInBounds_toArray, List.set_cons_zero, List.set_cons_succ, i64_w, i32_w]
                        rfl
                      refine pure_ (i := 4) (N := some 28) (v := ?_) (a' := ?_) #[true, true, true, true, true, false, false, true, true, false, false, false, false, false] rfl rfl (any_of HT_.out (by kernel_rfl)) (fun _ _ _ h => h) (Or.inl ⟨by rfl, ?_⟩) ?_ ?_
                      rotate_left
                      · intro w'
                        go_simp
                        with_reducible rfl
                      rotate_left
                      · simp only [Act.put, List.setIfInBounds_toArray, List.set_cons_zero, List.set_cons_succ, i64_w, i32_w]
                        rfl
                      refine pure_ (i := 5) (N := some 29) (v := ?_) (a' := ?_) #[true, true, true, true, true, true, false, true, true, false, false, false, false, false] rfl rfl (any_of HT_.out (by kernel_rfl)) (fun _ _ _ h => h) (Or.inl ⟨by rfl, ?_⟩) ?_ ?_
                      rotate_left
                      · intro w'
                        go_simp
                        with_reducible rfl
                      rotate_left
                      · simp only [Act.put, List.setIfInBounds_toArray, List.set_cons_zero, List.set_cons_succ, i64_w, i32_w]
                        rfl
                      refine take_ (i := 9) (N := some 33) (v := ?_) (a' := ?_) #[true, true, true, true, true, true, false, true, true, true, false, false, false, false] rfl rfl (take_ofW HT_.out HW_.out (by kernel_rfl)) (fun _ _ _ h => h) (Or.inl ⟨by rfl, ?_⟩) hHeld ?_ ?_
                      rotate_left
                      · rintro w' ⟨s0, s1, s2, s3, s4, s5, s6, s7, s8⟩
                        go_simp
                        with_reducible rfl
                      rotate_left
                      · simp only [Act.put, List.setIfInBounds_toArray, List.set_cons_zero, List.set_cons_succ, i64_w, i32_w]
                        rfl
                      refine one_ (i := 6) (N := some 30) #[true, true, true, true, true, true, true, true, true, true, false, false, false, false] rfl rfl (one_of HT_.out (by kernel_rfl)) (by decide) (fun K hK => ?_)
                      refine goes_ Try.func12 (by kernel_rfl) rfl #[.int .u64 (IntKind.u64.wrap (wrap64 (a0_4 + 1)))] (by rfl) rfl rfl (by (try simp only [List.map_toArray, List.map_cons, List.map_nil]); first | done | rfl | (simp only [List.length_drop, List.length_take]; rfl)) ?_
                      with_reducible refine (lodestoneref04_Num.calls k (IntKind.u64.wrap (wrap64 (a0_4 + 1))) t253 _ A12.out).mono ?_
                      rintro e w29 ⟨rfl, hb⟩
                      refine ⟨_, rfl, ?_⟩
                      have n0_ := Aside0.mk (blk_below (g := gb247) (o := .cells #[.int .u64 a0_0, .int .u32 a0_1, .bool a0_2, .string a0_3, .int .i64 a0_4, .string a0_5, .int .i64 a0_6, .int .i64 a0_7, .string a0_8] 27 (0, 0)) (by (with_reducible repeat (first | refine blk_drewN ?_ _ | refine blk_drew ?_ | refine blk_alloc ?_ _)); exact BK247.out) hb)
                      have n1_ := Aside0.mk (below_step (by repeat (first | (with_reducible first | exact HB.out | apply below_alloc | apply pw_below_drewN | apply below_drew1 | refine below_set ?_ GE247.out) | exact HB.out)) hb)
                      clear BK247
                      clear HB
                      have BK247 := n0_
                      have HB := n1_
                      clear n0_ n1_
                      (try clear hb)
                      (try clear hb2)
                      (try clear hk)
                      (try clear hi)
                      refine hK.out _ _ ⟨(blk_cell BK247.out 0).trans rfl, (blk_cell BK247.out 1).trans rfl, (blk_cell BK247.out 2).trans rfl, (blk_cell BK247.out 3).trans rfl, (blk_cell BK247.out 4).trans rfl, (blk_cell BK247.out 5).trans rfl, (blk_cell BK247.out 6).trans rfl, (blk_cell BK247.out 7).trans rfl, (blk_cell BK247.out 8).trans rfl⟩ (fun hHeld => ?_)
                      clear hK K
                      refine norm_ (a' := ?_) ?_ ?_
                      rotate_left
                      · show Act.put _ (some 30) _ = _
                        simp only [Act.put, List.setIfInBounds_toArray, List.set_cons_zero, List.set_cons_succ, i64_w, i32_w]
                        rfl
                      refine one_ (i := 10) (N := some 34) #[true, true, true, true, true, true, true, true, true, true, true, false, false, false] rfl rfl (one_of HT_.out (by kernel_rfl)) (by decide) (fun K hK => ?_)
                      refine goes_ Try.func30 (by kernel_rfl) rfl #[.string a0_5] (by rfl) rfl rfl (by (try simp only [List.map_toArray, List.map_cons, List.map_nil]); first | done | rfl | (simp only [List.length_drop, List.length_take]; rfl)) ?_
                      with_reducible refine (lodestoneref04_Text.calls k a0_5 t254 _ A13.out).mono ?_
                      rintro e w30 ⟨rfl, hb⟩
                      refine ⟨_, rfl, ?_⟩
                      have n0_ := Aside0.mk (blk_below (g := gb247) (o := .cells #[.int .u64 a0_0, .int .u32 a0_1, .bool a0_2, .string a0_3, .int .i64 a0_4, .string a0_5, .int .i64 a0_6, .int .i64 a0_7, .string a0_8] 27 (0, 0)) (by (with_reducible repeat (first | refine blk_drewN ?_ _ | refine blk_drew ?_ | refine blk_alloc ?_ _)); exact BK247.out) hb)
                      have n1_ := Aside0.mk (below_step (by repeat (first | (with_reducible first | exact HB.out | apply below_alloc | apply pw_below_drewN | apply below_drew1 | refine below_set ?_ GE247.out) | exact HB.out)) hb)
                      clear BK247
                      clear HB
                      have BK247 := n0_
                      have HB := n1_
                      clear n0_ n1_
                      (try clear hb)
                      (try clear hb2)
                      (try clear hk)
                      (try clear hi)
                      refine hK.out _ _ ⟨(blk_cell BK247.out 0).trans rfl, (blk_cell BK247.out 1).trans rfl, (blk_cell BK247.out 2).trans rfl, (blk_cell BK247.out 3).trans rfl, (blk_cell BK247.out 4).trans rfl, (blk_cell BK247.out 5).trans rfl, (blk_cell BK247.out 6).trans rfl, (blk_cell BK247.out 7).trans rfl, (blk_cell BK247.out 8).trans rfl⟩ (fun hHeld => ?_)
                      clear hK K
                      refine norm_ (a' := ?_) ?_ ?_
                      rotate_left
                      · show Act.put _ (some 34) _ = _
                        simp only [Act.put, List.setIfInBounds_toArray, List.set_cons_zero, List.set_cons_succ, i64_w, i32_w]
                        rfl
                      refine pure_ (i := 11) (N := some 35) (v := ?_) (a' := ?_) #[true, true, true, true, true, true, true, true, true, true, true, true, false, false] rfl rfl (any_of HT_.out (by kernel_rfl)) (fun _ _ _ h => h) (Or.inl ⟨by rfl, ?_⟩) ?_ ?_
                      rotate_left
                      · intro w'
                        go_simp
                        with_reducible rfl
                      rotate_left
                      · simp only [Act.put, List.setIfInBounds_toArray, List.set_cons_zero, List.set_cons_succ, i64_w, i32_w]
                        rfl
                      refine pure_ (i := 12) (N := some 36) (v := ?_) (a' := ?_) #[true, true, true, true, true, true, true, true, true, true, true, true, true, false] rfl rfl (any_of HT_.out (by kernel_rfl)) (fun _ _ _ h => h) (Or.inl ⟨by rfl, ?_⟩) ?_ ?_
                      rotate_left
                      · intro w'
                        go_simp
                        with_reducible rfl
                      rotate_left
                      · simp only [Act.put, List.setIfInBounds_toArray, List.set_cons_zero, List.set_cons_succ, i64_w, i32_w]
                        rfl
                      refine pure_ (i := 13) (N := some 3) (v := ?_) (a' := ?_) #[true, true, true, true, true, true, true, true, true, true, true, true, true, true] rfl rfl (any_of HT_.out (by kernel_rfl)) (fun _ _ _ h => h) (Or.inl ⟨by rfl, ?_⟩) ?_ ?_
                      rotate_left
                      · intro w'
                        go_simp
                        with_reducible rfl
                      rotate_left
                      · simp only [Act.put, List.setIfInBounds_toArray, List.set_cons_zero, List.set_cons_succ, i64_w, i32_w]
                        rfl
                      refine done_ (done_of HT_.out (by kernel_rfl)) ?_
                      try go_wp2
                      have n0_ := Aside0.mk (blk_drew BK247.out)
                      have n1_ := Aside0.mk (below_drew1 HB.out)
                      clear BK247
                      clear HB
                      have BK247 := n0_
                      have HB := n1_
                      clear n0_ n1_
                      refine start_ (n := 15) (S := fun w' => w'.cell? ⟨gb247, 0, none⟩ = some (.int .u64 a0_0) ∧ w'.cell? ⟨gb247, 1, none⟩ = some (.int .u32 a0_1) ∧ w'.cell? ⟨gb247, 2, none⟩ = some (.bool a0_2) ∧ w'.cell? ⟨gb247, 3, none⟩ = some (.string a0_3) ∧ w'.cell? ⟨gb247, 4, none⟩ = some (.int .i64 a0_4) ∧ w'.cell? ⟨gb247, 5, none⟩ = some (.string a0_5) ∧ w'.cell? ⟨gb247, 6, none⟩ = some (.int .i64 a0_6) ∧ w'.cell? ⟨gb247, 7, none⟩ = some (.int .i64 a0_7) ∧ w'.cell? ⟨gb247, 8, none⟩ = some (.string a0_8)) (ds := []) #[false, false, false, false, false, false, false, false, false, false, false, false, false, false, false] (by kernel_rfl) rfl rfl ⟨(blk_cell BK247.out 0).trans rfl, (blk_cell BK247.out 1).trans rfl, (blk_cell BK247.out 2).trans rfl, (blk_cell BK247.out 3).trans rfl, (blk_cell BK247.out 4).trans rfl, (blk_cell BK247.out 5).trans rfl, (blk_cell BK247.out 6).trans rfl, (blk_cell BK247.out 7).trans rfl, (blk_cell BK247.out 8).trans rfl⟩ (fun hHeld => ?_); refine with_tabW lodestoneref12_Put.tab5 lodestoneref12_Put.bits5 (fun HT_ HW_ => ?_)
                      generalize w30.drew = w31 at BK247 HB hHeld ⊢
                      refine pure_ (i := 0) (N := some 37) (v := ?_) (a' := ?_) #[true, false, false, false, false, false, false, false, false, false, false, false, false, false, false] rfl rfl (any_of HT_.out (by kernel_rfl)) (fun _ _ _ h => h) (Or.inl ⟨by rfl, ?_⟩) ?_ ?_
                      rotate_left
                      · intro w'
                        go_simp
                        with_reducible rfl
                      rotate_left
                      · simp only [Act.put, List.setIfInBounds_toArray, List.set_cons_zero, List.set_cons_succ, i64_w, i32_w]
                        rfl
                      refine pure_ (i := 1) (N := some 38) (v := ?_) (a' := ?_) #[true, true, false, false, false, false, false, false, false, false, false, false, false, false, false] rfl rfl (any_of HT_.out (by kernel_rfl)) (fun _ _ _ h => h) (Or.inl ⟨by rfl, ?_⟩) ?_ ?_
                      rotate_left
                      · intro w'
                        go_simp
                        with_reducible rfl
                      rotate_left
                      · simp only [Act.put, List.setIfInBounds_toArray, List.set_cons_zero, List.set_cons_succ, i64_w, i32_w]
                        rfl
                      refine pure_ (i := 6) (N := some 43) (v := ?_) (a' := ?_) #[true, true, false, false, false, false, true, false, false, false, false, false, false, false, false] rfl rfl (any_of HT_.out (by kernel_rfl)) (fun _ _ _ h => h) (Or.inl ⟨by rfl, ?_⟩) ?_ ?_
                      rotate_left
                      · intro w'
                        go_simp
                        with_reducible rfl
                      rotate_left
                      · simp only [Act.put, List.setIfInBounds_toArray, List.set_cons_zero, List.set_cons_succ, i64_w, i32_w]
                        rfl
                      refine pure_ (i := 11) (N := some 48) (v := ?_) (a' := ?_) #[true, true, false, false, false, false, true, false, false, false, false, true, false, false, false] rfl rfl (any_of HT_.out (by kernel_rfl)) (fun _ _ _ h => h) (Or.inl ⟨by rfl, ?_⟩) ?_ ?_
                      rotate_left
                      · intro w'
                        go_simp
                        with_reducible rfl
                      rotate_left
                      · simp only [Act.put, List.setIfInBounds_toArray, List.set_cons_zero, List.set_cons_succ, i64_w, i32_w]
                        rfl
                      refine take_ (i := 2) (N := some 39) (v := ?_) (a' := ?_) #[true, true, true, false, false, false, true, false, false, false, false, true, false, false, false] rfl rfl (take_ofW HT_.out HW_.out (by kernel_rfl)) (fun _ _ _ h => h) (Or.inl ⟨by rfl, ?_⟩) hHeld ?_ ?_
                      rotate_left
                      · rintro w' ⟨s0, s1, s2, s3, s4, s5, s6, s7, s8⟩
                        go_simp
                        with_reducible rfl
                      rotate_left
                      · simp only [Act.put, List.setIfInBounds_toArray, List.set_cons_zero, List.set_cons_succ, i64_w, i32_w]
                        rfl
                      refine pure_ (i := 3) (N := some 40) (v := ?_) (a' := ?_) #[true, true, true, true, false, false, true, false, false, false, false, true, false, false, false] rfl rfl (any_of HT_.out (by kernel_rfl)) (fun _ _ _ h => h) (Or.inl ⟨by rfl, ?_⟩) ?_ ?_
                      rotate_left
                      · intro w'
                        go_simp
                        with_reducible rfl
                      rotate_left
                      · simp only [Act.put, List.setIfInBounds_toArray, List.set_cons_zero, List.set_cons_succ, i64_w, i32_w]
                        rfl
                      refine take_ (i := 7) (N := some 44) (v := ?_) (a' := ?_) #[true, true, true, true, false, false, true, true, false, false, false, true, false, false, false] rfl rfl (take_ofW HT_.out HW_.out (by kernel_rfl)) (fun _ _ _ h => h) (Or.inl ⟨by rfl, ?_⟩) hHeld ?_ ?_
                      rotate_left
                      · rintro w' ⟨s0, s1, s2, s3, s4, s5, s6, s7, s8⟩
                        go_simp
                        with_reducible rfl
                      rotate_left
                      · simp only [Act.put, List.setIfInBounds_toArray, List.set_cons_zero, List.set_cons_succ, i64_w, i32_w]
                        rfl
                      refine pure_ (i := 8) (N := some 45) (v := ?_) (a' := ?_) #[true, true, true, true, false, false, true, true, true, false, false, true, false, false, false] rfl rfl (any_of HT_.out (by kernel_rfl)) (fun _ _ _ h => h) (Or.inl ⟨by rfl, ?_⟩) ?_ ?_
                      rotate_left
                      · intro w'
                        go_simp
                        with_reducible rfl
                      rotate_left
                      · simp only [Act.put, List.setIfInBounds_toArray, List.set_cons_zero, List.set_cons_succ, i64_w, i32_w]
                        rfl
                      refine take_ (i := 12) (N := some 49) (v := ?_) (a' := ?_) #[true, true, true, true, false, false, true, true, true, false, false, true, true, false, false] rfl rfl (take_ofW HT_.out HW_.out (by kernel_rfl)) (fun _ _ _ h => h) (Or.inl ⟨by rfl, ?_⟩) hHeld ?_ ?_
                      rotate_left
                      · rintro w' ⟨s0, s1, s2, s3, s4, s5, s6, s7, s8⟩
                        go_simp
                        with_reducible rfl
                      rotate_left
                      · simp only [Act.put, List.setIfInBounds_toArray, List.set_cons_zero, List.set_cons_succ, i64_w, i32_w]
                        rfl
                      refine one_ (i := 4) (N := some 41) #[true, true, true, true, true, false, true, true, true, false, false, true, true, false, false] rfl rfl (one_of HT_.out (by kernel_rfl)) (by decide) (fun K hK => ?_)
                      refine goes_ Try.func12 (by kernel_rfl) rfl #[.int .u64 (IntKind.u64.wrap (a0_6))] (by rfl) rfl rfl (by (try simp only [List.map_toArray, List.map_cons, List.map_nil]); first | done | rfl | (simp only [List.length_drop, List.length_take]; rfl)) ?_
                      with_reducible refine (lodestoneref04_Num.calls k (IntKind.u64.wrap (a0_6)) t255 _ A16.out).mono ?_
                      rintro e w32 ⟨rfl, hb⟩
                      refine ⟨_, rfl, ?_⟩
                      have n0_ := Aside0.mk (blk_below (g := gb247) (o := .cells #[.int .u64 a0_0, .int .u32 a0_1, .bool a0_2, .string a0_3, .int .i64 a0_4, .string a0_5, .int .i64 a0_6, .int .i64 a0_7, .string a0_8] 27 (0, 0)) (by (with_reducible repeat (first | refine blk_drewN ?_ _ | refine blk_drew ?_ | refine blk_alloc ?_ _)); exact BK247.out) hb)
                      have n1_ := Aside0.mk (below_step (by repeat (first | (with_reducible first | exact HB.out | apply below_alloc | apply pw_below_drewN | apply below_drew1 | refine below_set ?_ GE247.out) | exact HB.out)) hb)
                      clear BK247
                      clear HB
                      have BK247 := n0_
                      have HB := n1_
                      clear n0_ n1_
                      (try clear hb)
                      (try clear hb2)
                      (try clear hk)
                      (try clear hi)
                      refine hK.out _ _ ⟨(blk_cell BK247.out 0).trans rfl, (blk_cell BK247.out 1).trans rfl, (blk_cell BK247.out 2).trans rfl, (blk_cell BK247.out 3).trans rfl, (blk_cell BK247.out 4).trans rfl, (blk_cell BK247.out 5).trans rfl, (blk_cell BK247.out 6).trans rfl, (blk_cell BK247.out 7).trans rfl, (blk_cell BK247.out 8).trans rfl⟩ (fun hHeld => ?_)
                      clear hK K
                      refine norm_ (a' := ?_) ?_ ?_
                      rotate_left
                      · show Act.put _ (some 41) _ = _
                        simp only [Act.put, List.setIfInBounds_toArray, List.set_cons_zero, List.set_cons_succ, i64_w, i32_w]
                        rfl
                      refine pure_ (i := 5) (N := some 42) (v := ?_) (a' := ?_) #[true, true, true, true, true, true, true, true, true, false, false, true, true, false, false] rfl rfl (any_of HT_.out (by kernel_rfl)) (fun _ _ _ h => h) (Or.inl ⟨by rfl, ?_⟩) ?_ ?_
                      rotate_left
                      · intro w'
                        go_simp
                        with_reducible rfl
                      rotate_left
                      · simp only [Act.put, List.setIfInBounds_toArray, List.set_cons_zero, List.set_cons_succ, i64_w, i32_w]
                        rfl
                      refine one_ (i := 9) (N := some 46) #[true, true, true, true, true, true, true, true, true, true, false, true, true, false, false] rfl rfl (one_of HT_.out (by kernel_rfl)) (by decide) (fun K hK => ?_)
                      refine goes_ Try.func12 (by kernel_rfl) rfl #[.int .u64 (IntKind.u64.wrap (a0_7))] (by rfl) rfl rfl (by (try simp only [List.map_toArray, List.map_cons, List.map_nil]); first | done | rfl | (simp only [List.length_drop, List.length_take]; rfl)) ?_
                      with_reducible refine (lodestoneref04_Num.calls k (IntKind.u64.wrap (a0_7)) t256 _ A18.out).mono ?_
                      rintro e w33 ⟨rfl, hb⟩
                      refine ⟨_, rfl, ?_⟩
                      have n0_ := Aside0.mk (blk_below (g := gb247) (o := .cells #[.int .u64 a0_0, .int .u32 a0_1, .bool a0_2, .string a0_3, .int .i64 a0_4, .string a0_5, .int .i64 a0_6, .int .i64 a0_7, .string a0_8] 27 (0, 0)) (by (with_reducible repeat (first | refine blk_drewN ?_ _ | refine blk_drew ?_ | refine blk_alloc ?_ _)); exact BK247.out) hb)
                      have n1_ := Aside0.mk (below_step (by repeat (first | (with_reducible first | exact HB.out | apply below_alloc | apply pw_below_drewN | apply below_drew1 | refine below_set ?_ GE247.out) | exact HB.out)) hb)
                      clear BK247
                      clear HB
                      have BK247 := n0_
                      have HB := n1_
                      clear n0_ n1_
                      (try clear hb)
                      (try clear hb2)
                      (try clear hk)
                      (try clear hi)
                      refine hK.out _ _ ⟨(blk_cell BK247.out 0).trans rfl, (blk_cell BK247.out 1).trans rfl, (blk_cell BK247.out 2).trans rfl, (blk_cell BK247.out 3).trans rfl, (blk_cell BK247.out 4).trans rfl, (blk_cell BK247.out 5).trans rfl, (blk_cell BK247.out 6).trans rfl, (blk_cell BK247.out 7).trans rfl, (blk_cell BK247.out 8).trans rfl⟩ (fun hHeld => ?_)
                      clear hK K
                      refine norm_ (a' := ?_) ?_ ?_
                      rotate_left
                      · show Act.put _ (some 46) _ = _
                        simp only [Act.put, List.setIfInBounds_toArray, List.set_cons_zero, List.set_cons_succ, i64_w, i32_w]
                        rfl
                      refine pure_ (i := 10) (N := some 47) (v := ?_) (a' := ?_) #[true, true, true, true, true, true, true, true, true, true, true, true, true, false, false] rfl rfl (any_of HT_.out (by kernel_rfl)) (fun _ _ _ h => h) (Or.inl ⟨by rfl, ?_⟩) ?_ ?_
                      rotate_left
                      · intro w'
                        go_simp
                        with_reducible rfl
                      rotate_left
                      · simp only [Act.put, List.setIfInBounds_toArray, List.set_cons_zero, List.set_cons_succ, i64_w, i32_w]
                        rfl
                      refine pure_ (i := 13) (N := some 50) (v := ?_) (a' := ?_) #[true, true, true, true, true, true, true, true, true, true, true, true, true, true, false] rfl rfl (any_of HT_.out (by kernel_rfl)) (fun _ _ _ h => h) (Or.inl ⟨by rfl, ?_⟩) ?_ ?_
                      rotate_left
                      · intro w'
                        go_simp
                        with_reducible rfl
                      rotate_left
                      · simp only [Act.put, List.setIfInBounds_toArray, List.set_cons_zero, List.set_cons_succ, i64_w, i32_w]
                        rfl
                      refine pure_ (i := 14) (N := some 2) (v := ?_) (a' := ?_) #[true, true, true, true, true, true, true, true, true, true, true, true, true, true, true] rfl rfl (any_of HT_.out (by kernel_rfl)) (fun _ _ _ h => h) (Or.inl ⟨by rfl, ?_⟩) ?_ ?_
                      rotate_left
                      · intro w'
                        go_simp
                        with_reducible rfl
                      rotate_left
                      · simp only [Act.put, List.setIfInBounds_toArray, List.set_cons_zero, List.set_cons_succ, i64_w, i32_w]
                        rfl
                      refine done_ (done_of HT_.out (by kernel_rfl)) ?_
                      try go_wp2
                      go_ret
                      exact ⟨by first | rfl | (simp [errW_none, errW_some] <;> rfl) | (simp [*, errW_none, errW_some] <;> rfl), by repeat (first | (with_reducible first | exact HB.out | apply below_alloc | apply pw_below_drewN | apply below_drew1 | refine below_set ?_ GE247.out) | exact HB.out)⟩
                    · rw [if_neg c20] at H
                      exact absurd H (by simp)
                  · rw [if_neg c19] at H
                    exact absurd H (by simp)
                · rw [if_neg c17] at H
                  exact absurd H (by simp)
              · rw [if_neg c15] at H
                exact absurd H (by simp)
            · rw [if_neg c14] at H
              exact absurd H (by simp)
          · rw [if_neg c11] at H
            exact absurd H (by simp)
        · rw [if_neg c9] at H
          exact absurd H (by simp)
      · rw [if_neg c7] at H
        exact absurd H (by simp)
    · rw [if_neg c5] at H
      exact absurd H (by simp)
  · replace c3 := Bool.eq_false_iff.mpr c3
    subst c3
    have H1 : (some (⟨#[]⟩ : ByteArray)) = some r := by rw [if_neg (show ¬ (false = true) by decide)] at H; exact H
    clear H
    have H := H1
    clear H1
    obtain rfl := Option.some.inj H
    go_enter Try.func9, Try.ntmps9
    go_wp2_with (first | ((with_reducible refine gate_dst (N := 1) rfl ?_); refine box_event ?hg (N := 1) ?hd (cs := #[.int .u64 a0_0, .int .u32 a0_1, .bool a0_2, .string a0_3, .int .i64 a0_4, .string a0_5, .int .i64 a0_6, .int .i64 a0_7, .string a0_8]) (t := 27) ?hr ?_; (case hd => rfl); (case hg => rfl); (case hr => first | (go_simp; done) | (go_simp; rfl)); intro gb247 hg w34 hbox hb; have n0_ := Aside0.mk (below_step (by repeat (first | (with_reducible first | exact HB.out | apply below_alloc | apply pw_below_drewN | apply below_drew1) | exact HB.out)) hb); have n1_ := Aside0.mk (hbox); have n2_ := Aside0.mk ((by rw [hg]; exact (below_size (by repeat (first | (with_reducible first | exact HB.out | apply below_alloc | apply pw_below_drewN | apply below_drew1) | exact HB.out))) : w.heap.size ≤ gb247)); have n3_ := Aside0.mk ((by rw [hg]; exact (below_size (by repeat (first | (with_reducible first | exact HB.out | apply below_alloc | apply pw_below_drewN | apply below_drew1) | exact HB.out))) : w.heap.size ≤ gb247)); clear HB; have HB := n0_; have BK247 := n1_; have GW247 := n2_; have GE247 := n3_; clear n0_ n1_ n2_ n3_; clear hb hbox hg; have hcz35_0 : w34.cell? ⟨gb247, 0, none⟩ = some (.int .u64 a0_0) := (blk_cell BK247.out 0).trans rfl; have hcz35_1 : w34.cell? ⟨gb247, 1, none⟩ = some (.int .u32 a0_1) := (blk_cell BK247.out 1).trans rfl; have hcz35_2 : w34.cell? ⟨gb247, 2, none⟩ = some (.bool a0_2) := (blk_cell BK247.out 2).trans rfl; have hcz35_3 : w34.cell? ⟨gb247, 3, none⟩ = some (.string a0_3) := (blk_cell BK247.out 3).trans rfl; have hcz35_4 : w34.cell? ⟨gb247, 4, none⟩ = some (.int .i64 a0_4) := (blk_cell BK247.out 4).trans rfl; have hcz35_5 : w34.cell? ⟨gb247, 5, none⟩ = some (.string a0_5) := (blk_cell BK247.out 5).trans rfl; have hcz35_6 : w34.cell? ⟨gb247, 6, none⟩ = some (.int .i64 a0_6) := (blk_cell BK247.out 6).trans rfl; have hcz35_7 : w34.cell? ⟨gb247, 7, none⟩ = some (.int .i64 a0_7) := (blk_cell BK247.out 7).trans rfl; have hcz35_8 : w34.cell? ⟨gb247, 8, none⟩ = some (.string a0_8) := (blk_cell BK247.out 8).trans rfl; have hfz35_0 := blk_frozen BK247.out 0; have hfz35_1 := blk_frozen BK247.out 1; have hfz35_2 := blk_frozen BK247.out 2; have hfz35_3 := blk_frozen BK247.out 3; have hfz35_4 := blk_frozen BK247.out 4; have hfz35_5 := blk_frozen BK247.out 5; have hfz35_6 := blk_frozen BK247.out 6; have hfz35_7 := blk_frozen BK247.out 7; have hfz35_8 := blk_frozen BK247.out 8) | ((with_reducible refine gate_callee (f := 27) rfl ?_); refine goesL_ (some 5) rfl rfl Try.func27 (by kernel_rfl) rfl #[.agg #[.int .u64 a0_0, .int .u32 a0_1, .bool a0_2, .string a0_3, .int .i64 a0_4, .string a0_5, .int .i64 a0_6, .int .i64 a0_7, .string a0_8]] rfl (by (try simp only [List.map_toArray, List.map_cons, List.map_nil]); first | done | rfl | (simp only [List.length_drop, List.length_take]; rfl)) ?_; (with_reducible refine (lodestoneref12_May.calls a0_0 a0_1 a0_2 a0_3 a0_4 a0_5 a0_6 a0_7 a0_8 false _ A2.out).mono ?_); rintro e w36 ⟨rfl, hb⟩; refine ⟨_, rfl, ?_⟩; have n0_ := Aside0.mk (blk_below (g := gb247) (o := .cells #[.int .u64 a0_0, .int .u32 a0_1, .bool a0_2, .string a0_3, .int .i64 a0_4, .string a0_5, .int .i64 a0_6, .int .i64 a0_7, .string a0_8] 27 (0, 0)) (by (with_reducible repeat (first | refine blk_drewN ?_ _ | refine blk_drew ?_ | refine blk_alloc ?_ _)); exact BK247.out) hb); have n1_ := Aside0.mk (below_step (by repeat (first | (with_reducible first | exact HB.out | apply below_alloc | apply pw_below_drewN | apply below_drew1 | refine below_set ?_ GE247.out) | exact HB.out)) hb); clear BK247; clear HB; have BK247 := n0_; have HB := n1_; clear n0_ n1_; (try clear hb); (try clear hb2); (try clear hk); (try clear hi)))
    go_ret
    exact ⟨by first | rfl | (simp [errW_none, errW_some] <;> rfl) | (simp [*, errW_none, errW_some] <;> rfl), by repeat (first | (with_reducible first | exact HB.out | apply below_alloc | apply pw_below_drewN | apply below_drew1 | refine below_set ?_ GE247.out) | exact HB.out)⟩

/-! ### lodestonelaw12_AnchorPuts: function 3 -/
def lodestonelaw12_AnchorPuts.f (k : Nat) (a0_0 : Int) (a0_1 : Int) (a0_2 : Bool) (a0_3 : ByteArray) (a0_4 : Int) (a0_5 : ByteArray) (a0_6 : Int) (a0_7 : Int) (a0_8 : ByteArray) (a1 : Int) : Option (Bool) := (lodestonelaw12_near.f k a0_0 a0_1 a0_2 a0_3 a0_4 a0_5 a0_6 a0_7 a0_8 a1).bind fun bt258 => ((anchor_Put.f k bt258.1 bt258.2.1 bt258.2.2.1 bt258.2.2.2.1 bt258.2.2.2.2.1 bt258.2.2.2.2.2.1 bt258.2.2.2.2.2.2.1 bt258.2.2.2.2.2.2.2.1 bt258.2.2.2.2.2.2.2.2).bind fun t268 => ((anchor_Get.f k t268).bind fun bt269 => ((lodestonelaw12_awake.f k).bind fun t280 => (if t280 = true then ((lodestoneref12_Put.f k bt258.1 bt258.2.1 bt258.2.2.1 bt258.2.2.2.1 bt258.2.2.2.2.1 bt258.2.2.2.2.2.1 bt258.2.2.2.2.2.2.1 bt258.2.2.2.2.2.2.2.1 bt258.2.2.2.2.2.2.2.2).bind fun t281 => (if t268.toList = t281.toList then ((anchor_May.f bt258.1 bt258.2.1 bt258.2.2.1 bt258.2.2.2.1 bt258.2.2.2.2.1 bt258.2.2.2.2.2.1 bt258.2.2.2.2.2.2.1 bt258.2.2.2.2.2.2.2.1 bt258.2.2.2.2.2.2.2.2).bind fun t282 => (if (t282 != (t268.toList != ([] : List UInt8))) = true then (some false) else (if (t268.size : Int) > 400 then (some false) else (if t268.toList = ([] : List UInt8) then (some (bt269.2.2.2.2.2.2.2.2.2 == 2)) else (if bt269.2.2.2.2.2.2.2.2.2 = 0 then (if (bt269.1 == bt258.1 && (bt269.2.1 == bt258.2.1 && (bt269.2.2.1 == bt258.2.2.1 && (bt269.2.2.2.1.toList == bt258.2.2.2.1.toList && ((bt269.2.2.2.2.1 == bt258.2.2.2.2.1 && (bt269.2.2.2.2.2.1.toList == bt258.2.2.2.2.2.1.toList)) && (bt269.2.2.2.2.2.2.1 == bt258.2.2.2.2.2.2.1 && (bt269.2.2.2.2.2.2.2.1 == bt258.2.2.2.2.2.2.2.1 && (bt269.2.2.2.2.2.2.2.2.1.toList == bt258.2.2.2.2.2.2.2.2.toList)))))))) = true then (some true) else (some false)) else (some false)))))) else (some false))) else (some false)))))
theorem lodestonelaw12_AnchorPuts.mono : ∀ a0 a1 a2 a3 a4 a5 a6 a7 a8 a9 k, LeO (lodestonelaw12_AnchorPuts.f k a0 a1 a2 a3 a4 a5 a6 a7 a8 a9) (lodestonelaw12_AnchorPuts.f (k + 1) a0 a1 a2 a3 a4 a5 a6 a7 a8 a9) := by
  intro a0 a1 a2 a3 a4 a5 a6 a7 a8 a9 k
  unfold lodestonelaw12_AnchorPuts.f
  repeat' first
      | (with_reducible exact anchor_Get.mono _ _)
      | (with_reducible exact anchor_Put.mono _ _ _ _ _ _ _ _ _ _)
      | (with_reducible exact lodestonelaw12_awake.mono _)
      | (with_reducible exact lodestonelaw12_near.mono _ _ _ _ _ _ _ _ _ _ _)
      | (with_reducible exact lodestoneref12_Put.mono _ _ _ _ _ _ _ _ _ _)
      | (with_reducible exact LeO.refl _)
      | (with_reducible exact LeO.none _)
      | (with_reducible refine LeO.ite ?_ ?_)
      | (with_reducible refine LeO.bind ?_ (fun _ => ?_))
      | exact anchor_Get.mono _ _
      | exact anchor_Put.mono _ _ _ _ _ _ _ _ _ _
      | exact lodestonelaw12_awake.mono _
      | exact lodestonelaw12_near.mono _ _ _ _ _ _ _ _ _ _ _
      | exact lodestoneref12_Put.mono _ _ _ _ _ _ _ _ _ _
      | exact LeO.none _
      | refine LeO.ite ?_ ?_
      | refine LeO.bind ?_ (fun _ => ?_)
set_option maxHeartbeats 8000000 in
set_option maxRecDepth 100000 in
theorem lodestonelaw12_AnchorPuts.calls (k : Nat) (a0_0 : Int) (a0_1 : Int) (a0_2 : Bool) (a0_3 : ByteArray) (a0_4 : Int) (a0_5 : ByteArray) (a0_6 : Int) (a0_7 : Int) (a0_8 : ByteArray) (a1 : Int) (r : Bool) (w : World) (h : lodestonelaw12_AnchorPuts.f k a0_0 a0_1 a0_2 a0_3 a0_4 a0_5 a0_6 a0_7 a0_8 a1 = some r) (hr : r = true) :
    Calls Try.prog 3 #[.agg #[.int .u64 a0_0, .int .u32 a0_1, .bool a0_2, .string a0_3, .int .i64 a0_4, .string a0_5, .int .i64 a0_6, .int .i64 a0_7, .string a0_8], .int .i64 a1] w fun e w' => e = .returned (.bool r) ∧ Below w.heap.size w w' := by
  have HR_ := Aside0.mk hr
  clear hr
  have hu27 := Try.underlying27
  have HB := Aside0.mk (Below.refl w.heap.size w)
  have H : ((lodestonelaw12_near.f k a0_0 a0_1 a0_2 a0_3 a0_4 a0_5 a0_6 a0_7 a0_8 a1).bind fun bt258 => ((anchor_Put.f k bt258.1 bt258.2.1 bt258.2.2.1 bt258.2.2.2.1 bt258.2.2.2.2.1 bt258.2.2.2.2.2.1 bt258.2.2.2.2.2.2.1 bt258.2.2.2.2.2.2.2.1 bt258.2.2.2.2.2.2.2.2).bind fun t268 => ((anchor_Get.f k t268).bind fun bt269 => ((lodestonelaw12_awake.f k).bind fun t280 => (if t280 = true then ((lodestoneref12_Put.f k bt258.1 bt258.2.1 bt258.2.2.1 bt258.2.2.2.1 bt258.2.2.2.2.1 bt258.2.2.2.2.2.1 bt258.2.2.2.2.2.2.1 bt258.2.2.2.2.2.2.2.1 bt258.2.2.2.2.2.2.2.2).bind fun t281 => (if t268.toList = t281.toList then ((anchor_May.f bt258.1 bt258.2.1 bt258.2.2.1 bt258.2.2.2.1 bt258.2.2.2.2.1 bt258.2.2.2.2.2.1 bt258.2.2.2.2.2.2.1 bt258.2.2.2.2.2.2.2.1 bt258.2.2.2.2.2.2.2.2).bind fun t282 => (if (t282 != (t268.toList != ([] : List UInt8))) = true then (some false) else (if (t268.size : Int) > 400 then (some false) else (if t268.toList = ([] : List UInt8) then (some (bt269.2.2.2.2.2.2.2.2.2 == 2)) else (if bt269.2.2.2.2.2.2.2.2.2 = 0 then (if (bt269.1 == bt258.1 && (bt269.2.1 == bt258.2.1 && (bt269.2.2.1 == bt258.2.2.1 && (bt269.2.2.2.1.toList == bt258.2.2.2.1.toList && ((bt269.2.2.2.2.1 == bt258.2.2.2.2.1 && (bt269.2.2.2.2.2.1.toList == bt258.2.2.2.2.2.1.toList)) && (bt269.2.2.2.2.2.2.1 == bt258.2.2.2.2.2.2.1 && (bt269.2.2.2.2.2.2.2.1 == bt258.2.2.2.2.2.2.2.1 && (bt269.2.2.2.2.2.2.2.2.1.toList == bt258.2.2.2.2.2.2.2.2.toList)))))))) = true then (some true) else (some false)) else (some false)))))) else (some false))) else (some false)))))) = some r := h
  clear h
  replace H := Option.bind_eq_some_iff.mp H
  obtain ⟨⟨t258, t259, t260, t261, t262, t263, t264, t265, t266⟩, A30, H⟩ := H
  replace H : ((anchor_Put.f k t258 t259 t260 t261 t262 t263 t264 t265 t266).bind fun t268 => ((anchor_Get.f k t268).bind fun bt269 => ((lodestonelaw12_awake.f k).bind fun t280 => (if t280 = true then ((lodestoneref12_Put.f k t258 t259 t260 t261 t262 t263 t264 t265 t266).bind fun t281 => (if t268.toList = t281.toList then ((anchor_May.f t258 t259 t260 t261 t262 t263 t264 t265 t266).bind fun t282 => (if (t282 != (t268.toList != ([] : List UInt8))) = true then (some false) else (if (t268.size : Int) > 400 then (some false) else (if t268.toList = ([] : List UInt8) then (some (bt269.2.2.2.2.2.2.2.2.2 == 2)) else (if bt269.2.2.2.2.2.2.2.2.2 = 0 then (if (bt269.1 == t258 && (bt269.2.1 == t259 && (bt269.2.2.1 == t260 && (bt269.2.2.2.1.toList == t261.toList && ((bt269.2.2.2.2.1 == t262 && (bt269.2.2.2.2.2.1.toList == t263.toList)) && (bt269.2.2.2.2.2.2.1 == t264 && (bt269.2.2.2.2.2.2.2.1 == t265 && (bt269.2.2.2.2.2.2.2.2.1.toList == t266.toList)))))))) = true then (some true) else (some false)) else (some false)))))) else (some false))) else (some false))))) = some r := H
  have A3 := Aside0.mk A30
  clear A30
  replace H := Option.bind_eq_some_iff.mp H
  obtain ⟨t268, A40, H⟩ := H
  replace H : ((anchor_Get.f k t268).bind fun bt269 => ((lodestonelaw12_awake.f k).bind fun t280 => (if t280 = true then ((lodestoneref12_Put.f k t258 t259 t260 t261 t262 t263 t264 t265 t266).bind fun t281 => (if t268.toList = t281.toList then ((anchor_May.f t258 t259 t260 t261 t262 t263 t264 t265 t266).bind fun t282 => (if (t282 != (t268.toList != ([] : List UInt8))) = true then (some false) else (if (t268.size : Int) > 400 then (some false) else (if t268.toList = ([] : List UInt8) then (some (bt269.2.2.2.2.2.2.2.2.2 == 2)) else (if bt269.2.2.2.2.2.2.2.2.2 = 0 then (if (bt269.1 == t258 && (bt269.2.1 == t259 && (bt269.2.2.1 == t260 && (bt269.2.2.2.1.toList == t261.toList && ((bt269.2.2.2.2.1 == t262 && (bt269.2.2.2.2.2.1.toList == t263.toList)) && (bt269.2.2.2.2.2.2.1 == t264 && (bt269.2.2.2.2.2.2.2.1 == t265 && (bt269.2.2.2.2.2.2.2.2.1.toList == t266.toList)))))))) = true then (some true) else (some false)) else (some false)))))) else (some false))) else (some false)))) = some r := H
  have A4 := Aside0.mk A40
  clear A40
  replace H := Option.bind_eq_some_iff.mp H
  obtain ⟨⟨t269, t270, t271, t272, t273, t274, t275, t276, t277, t278⟩, A50, H⟩ := H
  replace H : ((lodestonelaw12_awake.f k).bind fun t280 => (if t280 = true then ((lodestoneref12_Put.f k t258 t259 t260 t261 t262 t263 t264 t265 t266).bind fun t281 => (if t268.toList = t281.toList then ((anchor_May.f t258 t259 t260 t261 t262 t263 t264 t265 t266).bind fun t282 => (if (t282 != (t268.toList != ([] : List UInt8))) = true then (some false) else (if (t268.size : Int) > 400 then (some false) else (if t268.toList = ([] : List UInt8) then (some (t278 == 2)) else (if t278 = 0 then (if (t269 == t258 && (t270 == t259 && (t271 == t260 && (t272.toList == t261.toList && ((t273 == t262 && (t274.toList == t263.toList)) && (t275 == t264 && (t276 == t265 && (t277.toList == t266.toList)))))))) = true then (some true) else (some false)) else (some false)))))) else (some false))) else (some false))) = some r := H
  have A5 := Aside0.mk A50
  clear A50
  replace H := Option.bind_eq_some_iff.mp H
  obtain ⟨t280, A60, H⟩ := H
  replace H : (if t280 = true then ((lodestoneref12_Put.f k t258 t259 t260 t261 t262 t263 t264 t265 t266).bind fun t281 => (if t268.toList = t281.toList then ((anchor_May.f t258 t259 t260 t261 t262 t263 t264 t265 t266).bind fun t282 => (if (t282 != (t268.toList != ([] : List UInt8))) = true then (some false) else (if (t268.size : Int) > 400 then (some false) else (if t268.toList = ([] : List UInt8) then (some (t278 == 2)) else (if t278 = 0 then (if (t269 == t258 && (t270 == t259 && (t271 == t260 && (t272.toList == t261.toList && ((t273 == t262 && (t274.toList == t263.toList)) && (t275 == t264 && (t276 == t265 && (t277.toList == t266.toList)))))))) = true then (some true) else (some false)) else (some false)))))) else (some false))) else (some false)) = some r := H
  have A6 := Aside0.mk A60
  clear A60
  by_cases c7 : t280 = true
  · subst c7
    have H1 : ((lodestoneref12_Put.f k t258 t259 t260 t261 t262 t263 t264 t265 t266).bind fun t281 => (if t268.toList = t281.toList then ((anchor_May.f t258 t259 t260 t261 t262 t263 t264 t265 t266).bind fun t282 => (if (t282 != (t268.toList != ([] : List UInt8))) = true then (some false) else (if (t268.size : Int) > 400 then (some false) else (if t268.toList = ([] : List UInt8) then (some (t278 == 2)) else (if t278 = 0 then (if (t269 == t258 && (t270 == t259 && (t271 == t260 && (t272.toList == t261.toList && ((t273 == t262 && (t274.toList == t263.toList)) && (t275 == t264 && (t276 == t265 && (t277.toList == t266.toList)))))))) = true then (some true) else (some false)) else (some false)))))) else (some false))) = some r := by rw [if_pos rfl] at H; exact H
    clear H
    have H := H1
    clear H1
    replace H := Option.bind_eq_some_iff.mp H
    obtain ⟨t281, A80, H⟩ := H
    replace H : (if t268.toList = t281.toList then ((anchor_May.f t258 t259 t260 t261 t262 t263 t264 t265 t266).bind fun t282 => (if (t282 != (t268.toList != ([] : List UInt8))) = true then (some false) else (if (t268.size : Int) > 400 then (some false) else (if t268.toList = ([] : List UInt8) then (some (t278 == 2)) else (if t278 = 0 then (if (t269 == t258 && (t270 == t259 && (t271 == t260 && (t272.toList == t261.toList && ((t273 == t262 && (t274.toList == t263.toList)) && (t275 == t264 && (t276 == t265 && (t277.toList == t266.toList)))))))) = true then (some true) else (some false)) else (some false)))))) else (some false)) = some r := H
    have A8 := Aside0.mk A80
    clear A80
    by_cases c9 : t268.toList = t281.toList
    · rw [if_pos c9] at H
      have c9b0 : (t268.toList == t281.toList) = true := beq_iff_eq.mpr c9
      have c9b1 : (t268.toList != t281.toList) = false := bne_eq_false_iff_eq.mpr c9
      clear c9
      replace H := Option.bind_eq_some_iff.mp H
      obtain ⟨t282, A100, H⟩ := H
      replace H : (if (t282 != (t268.toList != ([] : List UInt8))) = true then (some false) else (if (t268.size : Int) > 400 then (some false) else (if t268.toList = ([] : List UInt8) then (some (t278 == 2)) else (if t278 = 0 then (if (t269 == t258 && (t270 == t259 && (t271 == t260 && (t272.toList == t261.toList && ((t273 == t262 && (t274.toList == t263.toList)) && (t275 == t264 && (t276 == t265 && (t277.toList == t266.toList)))))))) = true then (some true) else (some false)) else (some false))))) = some r := H
      have A10 := Aside0.mk A100
      clear A100
      by_cases c11 : (t282 != (t268.toList != ([] : List UInt8))) = true
      · rw [if_pos c11] at H
        have c11b0 : (t282 != (t268.toList != ([] : List UInt8))) = true := c11
        (try (have c11b1 : decide (t282 = (t268.toList != ([] : List UInt8))) = false := by simpa using c11))
        (try (have c11b2 : (t282 == (t268.toList != ([] : List UInt8))) = false := by simpa using c11))
        (try (have c11b3 : ¬ (t282 = (t268.toList != ([] : List UInt8))) := by simpa using c11))
        clear c11
        exact absurd (H.trans (congrArg some HR_.out)) (by simp)
      · rw [if_neg c11] at H
        have c11b0 : (t282 != (t268.toList != ([] : List UInt8))) = false := by simpa using c11
        (try (have c11b1 : decide (t282 = (t268.toList != ([] : List UInt8))) = true := by simpa using c11))
        (try (have c11b2 : (t282 == (t268.toList != ([] : List UInt8))) = true := by simpa using c11))
        clear c11
        by_cases c29 : (t268.size : Int) > 400
        · rw [if_pos c29] at H
          have c29b0 : decide (400 < (t268.size : Int)) = true := decide_eq_true c29
          have c29b1 : decide (400 < t268.size) = true := decide_eq_true (by omega)
          clear c29
          exact absurd (H.trans (congrArg some HR_.out)) (by simp)
        · rw [if_neg c29] at H
          have c29b0 : decide (400 < (t268.size : Int)) = false := decide_eq_false c29
          have c29b1 : decide (400 < t268.size) = false := decide_eq_false (by omega)
          clear c29
          by_cases c47 : t268.toList = ([] : List UInt8)
          · rw [if_pos c47] at H
            have c47b0 : (t268.toList == ([] : List UInt8)) = true := beq_iff_eq.mpr c47
            have c47b1 : (t268.toList != ([] : List UInt8)) = false := bne_eq_false_iff_eq.mpr c47
            have c47f : t268.toList.isEmpty = true := by rw [c47]; rfl
            have c47t : t282 = false := by
              have hh_ := c11b0
              rw [c47b1] at hh_
              simpa using hh_
            clear c47
            obtain rfl := Option.some.inj H
            go_enter Try.func3, Try.ntmps3
            go_wp2_with (first | ((with_reducible refine gate_dst (N := 2) rfl ?_); (try (refine gate_guard (by rfl) ?_; dsimp only)); refine box_event ?hg (N := 2) ?hd (cs := #[.int .u64 a0_0, .int .u32 a0_1, .bool a0_2, .string a0_3, .int .i64 a0_4, .string a0_5, .int .i64 a0_6, .int .i64 a0_7, .string a0_8]) (t := 27) ?hr ?_; (case hd => rfl); (case hg => rfl); (case hr => first | (go_simp; done) | (go_simp; rfl)); intro gb257 hg w48 hbox hb; have n0_ := Aside0.mk (below_step (by repeat (first | (with_reducible first | exact HB.out | apply below_alloc | apply pw_below_drewN | apply below_drew1) | exact HB.out)) hb); have n1_ := Aside0.mk (hbox); have n2_ := Aside0.mk ((by rw [hg]; exact (below_size (by repeat (first | (with_reducible first | exact HB.out | apply below_alloc | apply pw_below_drewN | apply below_drew1) | exact HB.out))) : w.heap.size ≤ gb257)); have n3_ := Aside0.mk ((by rw [hg]; exact (below_size (by repeat (first | (with_reducible first | exact HB.out | apply below_alloc | apply pw_below_drewN | apply below_drew1) | exact HB.out))) : w.heap.size ≤ gb257)); clear HB; have HB := n0_; have BK257 := n1_; have GW257 := n2_; have GE257 := n3_; clear n0_ n1_ n2_ n3_; clear hb hbox hg; have hcz49_0 : w48.cell? ⟨gb257, 0, none⟩ = some (.int .u64 a0_0) := (blk_cell BK257.out 0).trans rfl; have hcz49_1 : w48.cell? ⟨gb257, 1, none⟩ = some (.int .u32 a0_1) := (blk_cell BK257.out 1).trans rfl; have hcz49_2 : w48.cell? ⟨gb257, 2, none⟩ = some (.bool a0_2) := (blk_cell BK257.out 2).trans rfl; have hcz49_3 : w48.cell? ⟨gb257, 3, none⟩ = some (.string a0_3) := (blk_cell BK257.out 3).trans rfl; have hcz49_4 : w48.cell? ⟨gb257, 4, none⟩ = some (.int .i64 a0_4) := (blk_cell BK257.out 4).trans rfl; have hcz49_5 : w48.cell? ⟨gb257, 5, none⟩ = some (.string a0_5) := (blk_cell BK257.out 5).trans rfl; have hcz49_6 : w48.cell? ⟨gb257, 6, none⟩ = some (.int .i64 a0_6) := (blk_cell BK257.out 6).trans rfl; have hcz49_7 : w48.cell? ⟨gb257, 7, none⟩ = some (.int .i64 a0_7) := (blk_cell BK257.out 7).trans rfl; have hcz49_8 : w48.cell? ⟨gb257, 8, none⟩ = some (.string a0_8) := (blk_cell BK257.out 8).trans rfl; have hfz49_0 := blk_frozen BK257.out 0; have hfz49_1 := blk_frozen BK257.out 1; have hfz49_2 := blk_frozen BK257.out 2; have hfz49_3 := blk_frozen BK257.out 3; have hfz49_4 := blk_frozen BK257.out 4; have hfz49_5 := blk_frozen BK257.out 5; have hfz49_6 := blk_frozen BK257.out 6; have hfz49_7 := blk_frozen BK257.out 7; have hfz49_8 := blk_frozen BK257.out 8) | ((with_reducible refine gate_callee (f := 5) rfl ?_); refine goesL_ (some 11) rfl rfl Try.func5 (by kernel_rfl) rfl #[.agg #[.int .u64 a0_0, .int .u32 a0_1, .bool a0_2, .string a0_3, .int .i64 a0_4, .string a0_5, .int .i64 a0_6, .int .i64 a0_7, .string a0_8], .int .i64 a1] rfl (by (try simp only [List.map_toArray, List.map_cons, List.map_nil]); first | done | rfl | (simp only [List.length_drop, List.length_take]; rfl)) ?_; (with_reducible refine (lodestonelaw12_near.calls k a0_0 a0_1 a0_2 a0_3 a0_4 a0_5 a0_6 a0_7 a0_8 a1 t258 t259 t260 t261 t262 t263 t264 t265 t266 _ A3.out).mono ?_); rintro e w50 ⟨rfl, hb⟩; refine ⟨_, rfl, ?_⟩; have n0_ := Aside0.mk (blk_below (g := gb257) (o := .cells #[.int .u64 a0_0, .int .u32 a0_1, .bool a0_2, .string a0_3, .int .i64 a0_4, .string a0_5, .int .i64 a0_6, .int .i64 a0_7, .string a0_8] 27 (0, 0)) (by (with_reducible repeat (first | refine blk_drewN ?_ _ | refine blk_drew ?_ | refine blk_alloc ?_ _)); exact BK257.out) hb); have n1_ := Aside0.mk (below_step (by repeat (first | (with_reducible first | exact HB.out | apply below_alloc | apply pw_below_drewN | apply below_drew1 | refine below_set ?_ GE257.out) | exact HB.out)) hb); clear BK257; clear HB; have BK257 := n0_; have HB := n1_; clear n0_ n1_; (try clear hb); (try clear hb2); (try clear hk); (try clear hi)) | ((with_reducible refine gate_dst (N := 5) rfl ?_); (try (refine gate_guard (by rfl) ?_; dsimp only)); refine box_event ?hg (N := 5) ?hd (cs := #[.int .u64 0, .int .u32 0, .bool false, .string (⟨#[]⟩ : ByteArray), .int .i64 0, .string (⟨#[]⟩ : ByteArray), .int .i64 0, .int .i64 0, .string (⟨#[]⟩ : ByteArray)]) (t := 27) ?hr ?_; (case hd => rfl); (case hg => rfl); (case hr => first | (go_simp; done) | (go_simp; rfl)); intro gb267 hg w51 hbox hb; have n0_ := Aside0.mk (blk_below (g := gb257) (o := .cells #[.int .u64 a0_0, .int .u32 a0_1, .bool a0_2, .string a0_3, .int .i64 a0_4, .string a0_5, .int .i64 a0_6, .int .i64 a0_7, .string a0_8] 27 (0, 0)) (by (with_reducible repeat (first | refine blk_drewN ?_ _ | refine blk_drew ?_ | refine blk_alloc ?_ _)); exact BK257.out) hb); have n1_ := Aside0.mk (below_step (by repeat (first | (with_reducible first | exact HB.out | apply below_alloc | apply pw_below_drewN | apply below_drew1 | refine below_set ?_ GE257.out) | exact HB.out)) hb); have n2_ := Aside0.mk (hbox); have n3_ := Aside0.mk ((by rw [hg]; exact (below_size (by repeat (first | (with_reducible first | exact HB.out | apply below_alloc | apply pw_below_drewN | apply below_drew1 | refine below_set ?_ GE257.out) | exact HB.out))) : w.heap.size ≤ gb267)); have n4_ := Aside0.mk ((by rw [hg]; exact (below_size (by repeat (first | (with_reducible first | exact HB.out | apply below_alloc | apply pw_below_drewN | apply below_drew1 | refine below_set ?_ GE257.out) | exact HB.out))) : w.heap.size ≤ gb267)); have n5_ := Aside0.mk ((by rw [hg]; exact Nat.ne_of_lt (blk_lt (g := gb257) (o := .cells #[.int .u64 a0_0, .int .u32 a0_1, .bool a0_2, .string a0_3, .int .i64 a0_4, .string a0_5, .int .i64 a0_6, .int .i64 a0_7, .string a0_8] 27 (0, 0)) (by (with_reducible repeat (first | refine blk_drewN ?_ _ | refine blk_drew ?_ | refine blk_alloc ?_ _)); exact BK257.out)) : gb257 ≠ gb267)); have n6_ := Aside0.mk ((by rw [hg]; exact Nat.ne_of_gt (blk_lt (g := gb257) (o := .cells #[.int .u64 a0_0, .int .u32 a0_1, .bool a0_2, .string a0_3, .int .i64 a0_4, .string a0_5, .int .i64 a0_6, .int .i64 a0_7, .string a0_8] 27 (0, 0)) (by (with_reducible repeat (first | refine blk_drewN ?_ _ | refine blk_drew ?_ | refine blk_alloc ?_ _)); exact BK257.out)) : gb267 ≠ gb257)); clear BK257; clear HB; have BK257 := n0_; have HB := n1_; have BK267 := n2_; have GW267 := n3_; have GE267 := n4_; have NB257_267 := n5_; have NB267_257 := n6_; clear n0_ n1_ n2_ n3_ n4_ n5_ n6_; clear hb hbox hg; have hnb52 := NB267_257.out; have hnc52 := NB257_267.out; have hcz53_0 : w51.cell? ⟨gb267, 0, none⟩ = some (.int .u64 0) := (blk_cell BK267.out 0).trans rfl; have hcz53_1 : w51.cell? ⟨gb267, 1, none⟩ = some (.int .u32 0) := (blk_cell BK267.out 1).trans rfl; have hcz53_2 : w51.cell? ⟨gb267, 2, none⟩ = some (.bool false) := (blk_cell BK267.out 2).trans rfl; have hcz53_3 : w51.cell? ⟨gb267, 3, none⟩ = some (.string (⟨#[]⟩ : ByteArray)) := (blk_cell BK267.out 3).trans rfl; have hcz53_4 : w51.cell? ⟨gb267, 4, none⟩ = some (.int .i64 0) := (blk_cell BK267.out 4).trans rfl; have hcz53_5 : w51.cell? ⟨gb267, 5, none⟩ = some (.string (⟨#[]⟩ : ByteArray)) := (blk_cell BK267.out 5).trans rfl; have hcz53_6 : w51.cell? ⟨gb267, 6, none⟩ = some (.int .i64 0) := (blk_cell BK267.out 6).trans rfl; have hcz53_7 : w51.cell? ⟨gb267, 7, none⟩ = some (.int .i64 0) := (blk_cell BK267.out 7).trans rfl; have hcz53_8 : w51.cell? ⟨gb267, 8, none⟩ = some (.string (⟨#[]⟩ : ByteArray)) := (blk_cell BK267.out 8).trans rfl; have hfz53_0 := blk_frozen BK267.out 0; have hfz53_1 := blk_frozen BK267.out 1; have hfz53_2 := blk_frozen BK267.out 2; have hfz53_3 := blk_frozen BK267.out 3; have hfz53_4 := blk_frozen BK267.out 4; have hfz53_5 := blk_frozen BK267.out 5; have hfz53_6 := blk_frozen BK267.out 6; have hfz53_7 := blk_frozen BK267.out 7; have hfz53_8 := blk_frozen BK267.out 8) | ((with_reducible refine gate_callee (f := 6) rfl ?_); refine goesL_ (some 13) rfl rfl Try.func6 (by kernel_rfl) rfl #[.agg #[.int .u64 t258, .int .u32 t259, .bool t260, .string t261, .int .i64 t262, .string t263, .int .i64 t264, .int .i64 t265, .string t266]] rfl (by (try simp only [List.map_toArray, List.map_cons, List.map_nil]); first | done | rfl | (simp only [List.length_drop, List.length_take]; rfl)) ?_; (with_reducible refine (anchor_Put.calls k t258 t259 t260 t261 t262 t263 t264 t265 t266 t268 _ A4.out).mono ?_); rintro e w54 ⟨rfl, hb⟩; refine ⟨_, rfl, ?_⟩; have n0_ := Aside0.mk (blk_below (g := gb257) (o := .cells #[.int .u64 a0_0, .int .u32 a0_1, .bool a0_2, .string a0_3, .int .i64 a0_4, .string a0_5, .int .i64 a0_6, .int .i64 a0_7, .string a0_8] 27 (0, 0)) (by (with_reducible repeat (first | refine blk_drewN ?_ _ | refine blk_drew ?_ | refine blk_alloc ?_ _)); refine blk_far ?_ NB257_267.out _; (with_reducible repeat (first | refine blk_drewN ?_ _ | refine blk_drew ?_ | refine blk_alloc ?_ _)); refine blk_far ?_ NB257_267.out _; (with_reducible repeat (first | refine blk_drewN ?_ _ | refine blk_drew ?_ | refine blk_alloc ?_ _)); refine blk_far ?_ NB257_267.out _; (with_reducible repeat (first | refine blk_drewN ?_ _ | refine blk_drew ?_ | refine blk_alloc ?_ _)); refine blk_far ?_ NB257_267.out _; (with_reducible repeat (first | refine blk_drewN ?_ _ | refine blk_drew ?_ | refine blk_alloc ?_ _)); refine blk_far ?_ NB257_267.out _; (with_reducible repeat (first | refine blk_drewN ?_ _ | refine blk_drew ?_ | refine blk_alloc ?_ _)); refine blk_far ?_ NB257_267.out _; (with_reducible repeat (first | refine blk_drewN ?_ _ | refine blk_drew ?_ | refine blk_alloc ?_ _)); refine blk_far ?_ NB257_267.out _; (with_reducible repeat (first | refine blk_drewN ?_ _ | refine blk_drew ?_ | refine blk_alloc ?_ _)); refine blk_far ?_ NB257_267.out _; (with_reducible repeat (first | refine blk_drewN ?_ _ | refine blk_drew ?_ | refine blk_alloc ?_ _)); refine blk_far ?_ NB257_267.out _; (with_reducible repeat (first | refine blk_drewN ?_ _ | refine blk_drew ?_ | refine blk_alloc ?_ _)); exact BK257.out) hb); have n1_ := Aside0.mk (blk_below (g := gb267) (o := .cells #[.int .u64 t258, .int .u32 t259, .bool t260, .string t261, .int .i64 t262, .string t263, .int .i64 t264, .int .i64 t265, .string t266] 27 (0, 0)) (by (with_reducible repeat (first | refine blk_drewN ?_ _ | refine blk_drew ?_ | refine blk_alloc ?_ _)); refine blk_put (cs := #[.int .u64 t258, .int .u32 t259, .bool t260, .string t261, .int .i64 t262, .string t263, .int .i64 t264, .int .i64 t265, .string (⟨#[]⟩ : ByteArray)]) ?_ 8 _ rfl; (with_reducible repeat (first | refine blk_drewN ?_ _ | refine blk_drew ?_ | refine blk_alloc ?_ _)); refine blk_put (cs := #[.int .u64 t258, .int .u32 t259, .bool t260, .string t261, .int .i64 t262, .string t263, .int .i64 t264, .int .i64 0, .string (⟨#[]⟩ : ByteArray)]) ?_ 7 _ rfl; (with_reducible repeat (first | refine blk_drewN ?_ _ | refine blk_drew ?_ | refine blk_alloc ?_ _)); refine blk_put (cs := #[.int .u64 t258, .int .u32 t259, .bool t260, .string t261, .int .i64 t262, .string t263, .int .i64 0, .int .i64 0, .string (⟨#[]⟩ : ByteArray)]) ?_ 6 _ rfl; (with_reducible repeat (first | refine blk_drewN ?_ _ | refine blk_drew ?_ | refine blk_alloc ?_ _)); refine blk_put (cs := #[.int .u64 t258, .int .u32 t259, .bool t260, .string t261, .int .i64 t262, .string (⟨#[]⟩ : ByteArray), .int .i64 0, .int .i64 0, .string (⟨#[]⟩ : ByteArray)]) ?_ 5 _ rfl; (with_reducible repeat (first | refine blk_drewN ?_ _ | refine blk_drew ?_ | refine blk_alloc ?_ _)); refine blk_put (cs := #[.int .u64 t258, .int .u32 t259, .bool t260, .string t261, .int .i64 0, .string (⟨#[]⟩ : ByteArray), .int .i64 0, .int .i64 0, .string (⟨#[]⟩ : ByteArray)]) ?_ 4 _ rfl; (with_reducible repeat (first | refine blk_drewN ?_ _ | refine blk_drew ?_ | refine blk_alloc ?_ _)); refine blk_put (cs := #[.int .u64 t258, .int .u32 t259, .bool t260, .string (⟨#[]⟩ : ByteArray), .int .i64 0, .string (⟨#[]⟩ : ByteArray), .int .i64 0, .int .i64 0, .string (⟨#[]⟩ : ByteArray)]) ?_ 3 _ rfl; (with_reducible repeat (first | refine blk_drewN ?_ _ | refine blk_drew ?_ | refine blk_alloc ?_ _)); refine blk_put (cs := #[.int .u64 t258, .int .u32 t259, .bool false, .string (⟨#[]⟩ : ByteArray), .int .i64 0, .string (⟨#[]⟩ : ByteArray), .int .i64 0, .int .i64 0, .string (⟨#[]⟩ : ByteArray)]) ?_ 2 _ rfl; (with_reducible repeat (first | refine blk_drewN ?_ _ | refine blk_drew ?_ | refine blk_alloc ?_ _)); refine blk_put (cs := #[.int .u64 t258, .int .u32 0, .bool false, .string (⟨#[]⟩ : ByteArray), .int .i64 0, .string (⟨#[]⟩ : ByteArray), .int .i64 0, .int .i64 0, .string (⟨#[]⟩ : ByteArray)]) ?_ 1 _ rfl; (with_reducible repeat (first | refine blk_drewN ?_ _ | refine blk_drew ?_ | refine blk_alloc ?_ _)); refine blk_put (cs := #[.int .u64 0, .int .u32 0, .bool false, .string (⟨#[]⟩ : ByteArray), .int .i64 0, .string (⟨#[]⟩ : ByteArray), .int .i64 0, .int .i64 0, .string (⟨#[]⟩ : ByteArray)]) ?_ 0 _ rfl; (with_reducible repeat (first | refine blk_drewN ?_ _ | refine blk_drew ?_ | refine blk_alloc ?_ _)); exact BK267.out) hb); have n2_ := Aside0.mk (below_step (by repeat (first | (with_reducible first | exact HB.out | apply below_alloc | apply pw_below_drewN | apply below_drew1 | refine below_set ?_ GE257.out | refine below_set ?_ GE267.out) | exact HB.out)) hb); clear BK257; clear BK267; clear HB; have BK257 := n0_; have BK267 := n1_; have HB := n2_; clear n0_ n1_ n2_; (try clear hb); (try clear hb2); (try clear hk); (try clear hi)) | ((with_reducible refine gate_callee (f := 7) rfl ?_); refine goesL_ (some 16) rfl rfl Try.func7 (by kernel_rfl) rfl #[.string t268] rfl (by (try simp only [List.map_toArray, List.map_cons, List.map_nil]); first | done | rfl | (simp only [List.length_drop, List.length_take]; rfl)) ?_; (with_reducible refine (anchor_Get.calls k t268 t269 t270 t271 t272 t273 t274 t275 t276 t277 t278 _ A5.out).mono ?_); rintro e w55 ⟨rfl, hb⟩; refine ⟨_, rfl, ?_⟩; have n0_ := Aside0.mk (blk_below (g := gb257) (o := .cells #[.int .u64 a0_0, .int .u32 a0_1, .bool a0_2, .string a0_3, .int .i64 a0_4, .string a0_5, .int .i64 a0_6, .int .i64 a0_7, .string a0_8] 27 (0, 0)) (by (with_reducible repeat (first | refine blk_drewN ?_ _ | refine blk_drew ?_ | refine blk_alloc ?_ _)); exact BK257.out) hb); have n1_ := Aside0.mk (blk_below (g := gb267) (o := .cells #[.int .u64 t258, .int .u32 t259, .bool t260, .string t261, .int .i64 t262, .string t263, .int .i64 t264, .int .i64 t265, .string t266] 27 (0, 0)) (by (with_reducible repeat (first | refine blk_drewN ?_ _ | refine blk_drew ?_ | refine blk_alloc ?_ _)); exact BK267.out) hb); have n2_ := Aside0.mk (below_step (by repeat (first | (with_reducible first | exact HB.out | apply below_alloc | apply pw_below_drewN | apply below_drew1 | refine below_set ?_ GE257.out | refine below_set ?_ GE267.out) | exact HB.out)) hb); clear BK257; clear BK267; clear HB; have BK257 := n0_; have BK267 := n1_; have HB := n2_; clear n0_ n1_ n2_; (try clear hb); (try clear hb2); (try clear hk); (try clear hi)) | ((with_reducible refine gate_dst (N := 7) rfl ?_); (try (refine gate_guard (by rfl) ?_; dsimp only)); refine box_event ?hg (N := 7) ?hd (cs := #[.int .u64 0, .int .u32 0, .bool false, .string (⟨#[]⟩ : ByteArray), .int .i64 0, .string (⟨#[]⟩ : ByteArray), .int .i64 0, .int .i64 0, .string (⟨#[]⟩ : ByteArray)]) (t := 27) ?hr ?_; (case hd => rfl); (case hg => rfl); (case hr => first | (go_simp; done) | (go_simp; rfl)); intro gb279 hg w56 hbox hb; have n0_ := Aside0.mk (blk_below (g := gb257) (o := .cells #[.int .u64 a0_0, .int .u32 a0_1, .bool a0_2, .string a0_3, .int .i64 a0_4, .string a0_5, .int .i64 a0_6, .int .i64 a0_7, .string a0_8] 27 (0, 0)) (by (with_reducible repeat (first | refine blk_drewN ?_ _ | refine blk_drew ?_ | refine blk_alloc ?_ _)); exact BK257.out) hb); have n1_ := Aside0.mk (blk_below (g := gb267) (o := .cells #[.int .u64 t258, .int .u32 t259, .bool t260, .string t261, .int .i64 t262, .string t263, .int .i64 t264, .int .i64 t265, .string t266] 27 (0, 0)) (by (with_reducible repeat (first | refine blk_drewN ?_ _ | refine blk_drew ?_ | refine blk_alloc ?_ _)); exact BK267.out) hb); have n2_ := Aside0.mk (below_step (by repeat (first | (with_reducible first | exact HB.out | apply below_alloc | apply pw_below_drewN | apply below_drew1 | refine below_set ?_ GE257.out | refine below_set ?_ GE267.out) | exact HB.out)) hb); have n3_ := Aside0.mk (hbox); have n4_ := Aside0.mk ((by rw [hg]; exact (below_size (by repeat (first | (with_reducible first | exact HB.out | apply below_alloc | apply pw_below_drewN | apply below_drew1 | refine below_set ?_ GE257.out | refine below_set ?_ GE267.out) | exact HB.out))) : w.heap.size ≤ gb279)); have n5_ := Aside0.mk ((by rw [hg]; exact (below_size (by repeat (first | (with_reducible first | exact HB.out | apply below_alloc | apply pw_below_drewN | apply below_drew1 | refine below_set ?_ GE257.out | refine below_set ?_ GE267.out) | exact HB.out))) : w.heap.size ≤ gb279)); have n6_ := Aside0.mk ((by rw [hg]; exact Nat.ne_of_lt (blk_lt (g := gb257) (o := .cells #[.int .u64 a0_0, .int .u32 a0_1, .bool a0_2, .string a0_3, .int .i64 a0_4, .string a0_5, .int .i64 a0_6, .int .i64 a0_7, .string a0_8] 27 (0, 0)) (by (with_reducible repeat (first | refine blk_drewN ?_ _ | refine blk_drew ?_ | refine blk_alloc ?_ _)); exact BK257.out)) : gb257 ≠ gb279)); have n7_ := Aside0.mk ((by rw [hg]; exact Nat.ne_of_gt (blk_lt (g := gb257) (o := .cells #[.int .u64 a0_0, .int .u32 a0_1, .bool a0_2, .string a0_3, .int .i64 a0_4, .string a0_5, .int .i64 a0_6, .int .i64 a0_7, .string a0_8] 27 (0, 0)) (by (with_reducible repeat (first | refine blk_drewN ?_ _ | refine blk_drew ?_ | refine blk_alloc ?_ _)); exact BK257.out)) : gb279 ≠ gb257)); have n8_ := Aside0.mk ((by rw [hg]; exact Nat.ne_of_lt (blk_lt (g := gb267) (o := .cells #[.int .u64 t258, .int .u32 t259, .bool t260, .string t261, .int .i64 t262, .string t263, .int .i64 t264, .int .i64 t265, .string t266] 27 (0, 0)) (by (with_reducible repeat (first | refine blk_drewN ?_ _ | refine blk_drew ?_ | refine blk_alloc ?_ _)); exact BK267.out)) : gb267 ≠ gb279)); have n9_ := Aside0.mk ((by rw [hg]; exact Nat.ne_of_gt (blk_lt (g := gb267) (o := .cells #[.int .u64 t258, .int .u32 t259, .bool t260, .string t261, .int .i64 t262, .string t263, .int .i64 t264, .int .i64 t265, .string t266] 27 (0, 0)) (by (with_reducible repeat (first | refine blk_drewN ?_ _ | refine blk_drew ?_ | refine blk_alloc ?_ _)); exact BK267.out)) : gb279 ≠ gb267)); clear BK257; clear BK267; clear HB; have BK257 := n0_; have BK267 := n1_; have HB := n2_; have BK279 := n3_; have GW279 := n4_; have GE279 := n5_; have NB257_279 := n6_; have NB279_257 := n7_; have NB267_279 := n8_; have NB279_267 := n9_; clear n0_ n1_ n2_ n3_ n4_ n5_ n6_ n7_ n8_ n9_; clear hb hbox hg; have hnb57 := NB279_257.out; have hnc57 := NB257_279.out; have hnb58 := NB279_267.out; have hnc58 := NB267_279.out; have hcz59_0 : w56.cell? ⟨gb279, 0, none⟩ = some (.int .u64 0) := (blk_cell BK279.out 0).trans rfl; have hcz59_1 : w56.cell? ⟨gb279, 1, none⟩ = some (.int .u32 0) := (blk_cell BK279.out 1).trans rfl; have hcz59_2 : w56.cell? ⟨gb279, 2, none⟩ = some (.bool false) := (blk_cell BK279.out 2).trans rfl; have hcz59_3 : w56.cell? ⟨gb279, 3, none⟩ = some (.string (⟨#[]⟩ : ByteArray)) := (blk_cell BK279.out 3).trans rfl; have hcz59_4 : w56.cell? ⟨gb279, 4, none⟩ = some (.int .i64 0) := (blk_cell BK279.out 4).trans rfl; have hcz59_5 : w56.cell? ⟨gb279, 5, none⟩ = some (.string (⟨#[]⟩ : ByteArray)) := (blk_cell BK279.out 5).trans rfl; have hcz59_6 : w56.cell? ⟨gb279, 6, none⟩ = some (.int .i64 0) := (blk_cell BK279.out 6).trans rfl; have hcz59_7 : w56.cell? ⟨gb279, 7, none⟩ = some (.int .i64 0) := (blk_cell BK279.out 7).trans rfl; have hcz59_8 : w56.cell? ⟨gb279, 8, none⟩ = some (.string (⟨#[]⟩ : ByteArray)) := (blk_cell BK279.out 8).trans rfl; have hfz59_0 := blk_frozen BK279.out 0; have hfz59_1 := blk_frozen BK279.out 1; have hfz59_2 := blk_frozen BK279.out 2; have hfz59_3 := blk_frozen BK279.out 3; have hfz59_4 := blk_frozen BK279.out 4; have hfz59_5 := blk_frozen BK279.out 5; have hfz59_6 := blk_frozen BK279.out 6; have hfz59_7 := blk_frozen BK279.out 7; have hfz59_8 := blk_frozen BK279.out 8) | ((with_reducible refine gate_callee (f := 8) rfl ?_); refine goesL_ (some 19) rfl rfl Try.func8 (by kernel_rfl) rfl #[] rfl (by (try simp only [List.map_toArray, List.map_cons, List.map_nil]); first | done | rfl | (simp only [List.length_drop, List.length_take]; rfl)) ?_; (with_reducible refine (lodestonelaw12_awake.calls k  true _ A6.out).mono ?_); rintro e w60 ⟨rfl, hb⟩; refine ⟨_, rfl, ?_⟩; have n0_ := Aside0.mk (blk_below (g := gb257) (o := .cells #[.int .u64 a0_0, .int .u32 a0_1, .bool a0_2, .string a0_3, .int .i64 a0_4, .string a0_5, .int .i64 a0_6, .int .i64 a0_7, .string a0_8] 27 (0, 0)) (by (with_reducible repeat (first | refine blk_drewN ?_ _ | refine blk_drew ?_ | refine blk_alloc ?_ _)); refine blk_far ?_ NB257_279.out _; (with_reducible repeat (first | refine blk_drewN ?_ _ | refine blk_drew ?_ | refine blk_alloc ?_ _)); refine blk_far ?_ NB257_279.out _; (with_reducible repeat (first | refine blk_drewN ?_ _ | refine blk_drew ?_ | refine blk_alloc ?_ _)); refine blk_far ?_ NB257_279.out _; (with_reducible repeat (first | refine blk_drewN ?_ _ | refine blk_drew ?_ | refine blk_alloc ?_ _)); refine blk_far ?_ NB257_279.out _; (with_reducible repeat (first | refine blk_drewN ?_ _ | refine blk_drew ?_ | refine blk_alloc ?_ _)); refine blk_far ?_ NB257_279.out _; (with_reducible repeat (first | refine blk_drewN ?_ _ | refine blk_drew ?_ | refine blk_alloc ?_ _)); refine blk_far ?_ NB257_279.out _; (with_reducible repeat (first | refine blk_drewN ?_ _ | refine blk_drew ?_ | refine blk_alloc ?_ _)); refine blk_far ?_ NB257_279.out _; (with_reducible repeat (first | refine blk_drewN ?_ _ | refine blk_drew ?_ | refine blk_alloc ?_ _)); refine blk_far ?_ NB257_279.out _; (with_reducible repeat (first | refine blk_drewN ?_ _ | refine blk_drew ?_ | refine blk_alloc ?_ _)); refine blk_far ?_ NB257_279.out _; (with_reducible repeat (first | refine blk_drewN ?_ _ | refine blk_drew ?_ | refine blk_alloc ?_ _)); exact BK257.out) hb); have n1_ := Aside0.mk (blk_below (g := gb267) (o := .cells #[.int .u64 t258, .int .u32 t259, .bool t260, .string t261, .int .i64 t262, .string t263, .int .i64 t264, .int .i64 t265, .string t266] 27 (0, 0)) (by (with_reducible repeat (first | refine blk_drewN ?_ _ | refine blk_drew ?_ | refine blk_alloc ?_ _)); refine blk_far ?_ NB267_279.out _; (with_reducible repeat (first | refine blk_drewN ?_ _ | refine blk_drew ?_ | refine blk_alloc ?_ _)); refine blk_far ?_ NB267_279.out _; (with_reducible repeat (first | refine blk_drewN ?_ _ | refine blk_drew ?_ | refine blk_alloc ?_ _)); refine blk_far ?_ NB267_279.out _; (with_reducible repeat (first | refine blk_drewN ?_ _ | refine blk_drew ?_ | refine blk_alloc ?_ _)); refine blk_far ?_ NB267_279.out _; (with_reducible repeat (first | refine blk_drewN ?_ _ | refine blk_drew ?_ | refine blk_alloc ?_ _)); refine blk_far ?_ NB267_279.out _; (with_reducible repeat (first | refine blk_drewN ?_ _ | refine blk_drew ?_ | refine blk_alloc ?_ _)); refine blk_far ?_ NB267_279.out _; (with_reducible repeat (first | refine blk_drewN ?_ _ | refine blk_drew ?_ | refine blk_alloc ?_ _)); refine blk_far ?_ NB267_279.out _; (with_reducible repeat (first | refine blk_drewN ?_ _ | refine blk_drew ?_ | refine blk_alloc ?_ _)); refine blk_far ?_ NB267_279.out _; (with_reducible repeat (first | refine blk_drewN ?_ _ | refine blk_drew ?_ | refine blk_alloc ?_ _)); refine blk_far ?_ NB267_279.out _; (with_reducible repeat (first | refine blk_drewN ?_ _ | refine blk_drew ?_ | refine blk_alloc ?_ _)); exact BK267.out) hb); have n2_ := Aside0.mk (blk_below (g := gb279) (o := .cells #[.int .u64 t269, .int .u32 t270, .bool t271, .string t272, .int .i64 t273, .string t274, .int .i64 t275, .int .i64 t276, .string t277] 27 (0, 0)) (by (with_reducible repeat (first | refine blk_drewN ?_ _ | refine blk_drew ?_ | refine blk_alloc ?_ _)); refine blk_put (cs := #[.int .u64 t269, .int .u32 t270, .bool t271, .string t272, .int .i64 t273, .string t274, .int .i64 t275, .int .i64 t276, .string (⟨#[]⟩ : ByteArray)]) ?_ 8 _ rfl; (with_reducible repeat (first | refine blk_drewN ?_ _ | refine blk_drew ?_ | refine blk_alloc ?_ _)); refine blk_put (cs := #[.int .u64 t269, .int .u32 t270, .bool t271, .string t272, .int .i64 t273, .string t274, .int .i64 t275, .int .i64 0, .string (⟨#[]⟩ : ByteArray)]) ?_ 7 _ rfl; (with_reducible repeat (first | refine blk_drewN ?_ _ | refine blk_drew ?_ | refine blk_alloc ?_ _)); refine blk_put (cs := #[.int .u64 t269, .int .u32 t270, .bool t271, .string t272, .int .i64 t273, .string t274, .int .i64 0, .int .i64 0, .string (⟨#[]⟩ : ByteArray)]) ?_ 6 _ rfl; (with_reducible repeat (first | refine blk_drewN ?_ _ | refine blk_drew ?_ | refine blk_alloc ?_ _)); refine blk_put (cs := #[.int .u64 t269, .int .u32 t270, .bool t271, .string t272, .int .i64 t273, .string (⟨#[]⟩ : ByteArray), .int .i64 0, .int .i64 0, .string (⟨#[]⟩ : ByteArray)]) ?_ 5 _ rfl; (with_reducible repeat (first | refine blk_drewN ?_ _ | refine blk_drew ?_ | refine blk_alloc ?_ _)); refine blk_put (cs := #[.int .u64 t269, .int .u32 t270, .bool t271, .string t272, .int .i64 0, .string (⟨#[]⟩ : ByteArray), .int .i64 0, .int .i64 0, .string (⟨#[]⟩ : ByteArray)]) ?_ 4 _ rfl; (with_reducible repeat (first | refine blk_drewN ?_ _ | refine blk_drew ?_ | refine blk_alloc ?_ _)); refine blk_put (cs := #[.int .u64 t269, .int .u32 t270, .bool t271, .string (⟨#[]⟩ : ByteArray), .int .i64 0, .string (⟨#[]⟩ : ByteArray), .int .i64 0, .int .i64 0, .string (⟨#[]⟩ : ByteArray)]) ?_ 3 _ rfl; (with_reducible repeat (first | refine blk_drewN ?_ _ | refine blk_drew ?_ | refine blk_alloc ?_ _)); refine blk_put (cs := #[.int .u64 t269, .int .u32 t270, .bool false, .string (⟨#[]⟩ : ByteArray), .int .i64 0, .string (⟨#[]⟩ : ByteArray), .int .i64 0, .int .i64 0, .string (⟨#[]⟩ : ByteArray)]) ?_ 2 _ rfl; (with_reducible repeat (first | refine blk_drewN ?_ _ | refine blk_drew ?_ | refine blk_alloc ?_ _)); refine blk_put (cs := #[.int .u64 t269, .int .u32 0, .bool false, .string (⟨#[]⟩ : ByteArray), .int .i64 0, .string (⟨#[]⟩ : ByteArray), .int .i64 0, .int .i64 0, .string (⟨#[]⟩ : ByteArray)]) ?_ 1 _ rfl; (with_reducible repeat (first | refine blk_drewN ?_ _ | refine blk_drew ?_ | refine blk_alloc ?_ _)); refine blk_put (cs := #[.int .u64 0, .int .u32 0, .bool false, .string (⟨#[]⟩ : ByteArray), .int .i64 0, .string (⟨#[]⟩ : ByteArray), .int .i64 0, .int .i64 0, .string (⟨#[]⟩ : ByteArray)]) ?_ 0 _ rfl; (with_reducible repeat (first | refine blk_drewN ?_ _ | refine blk_drew ?_ | refine blk_alloc ?_ _)); exact BK279.out) hb); have n3_ := Aside0.mk (below_step (by repeat (first | (with_reducible first | exact HB.out | apply below_alloc | apply pw_below_drewN | apply below_drew1 | refine below_set ?_ GE257.out | refine below_set ?_ GE267.out | refine below_set ?_ GE279.out) | exact HB.out)) hb); clear BK257; clear BK267; clear BK279; clear HB; have BK257 := n0_; have BK267 := n1_; have BK279 := n2_; have HB := n3_; clear n0_ n1_ n2_ n3_; (try clear hb); (try clear hb2); (try clear hk); (try clear hi); have hcz61_0 : w60.cell? ⟨gb267, 0, none⟩ = some (.int .u64 t258) := (blk_cell BK267.out 0).trans rfl; have hcz61_1 : w60.cell? ⟨gb267, 1, none⟩ = some (.int .u32 t259) := (blk_cell BK267.out 1).trans rfl; have hcz61_2 : w60.cell? ⟨gb267, 2, none⟩ = some (.bool t260) := (blk_cell BK267.out 2).trans rfl; have hcz61_3 : w60.cell? ⟨gb267, 3, none⟩ = some (.string t261) := (blk_cell BK267.out 3).trans rfl; have hcz61_4 : w60.cell? ⟨gb267, 4, none⟩ = some (.int .i64 t262) := (blk_cell BK267.out 4).trans rfl; have hcz61_5 : w60.cell? ⟨gb267, 5, none⟩ = some (.string t263) := (blk_cell BK267.out 5).trans rfl; have hcz61_6 : w60.cell? ⟨gb267, 6, none⟩ = some (.int .i64 t264) := (blk_cell BK267.out 6).trans rfl; have hcz61_7 : w60.cell? ⟨gb267, 7, none⟩ = some (.int .i64 t265) := (blk_cell BK267.out 7).trans rfl; have hcz61_8 : w60.cell? ⟨gb267, 8, none⟩ = some (.string t266) := (blk_cell BK267.out 8).trans rfl; have hfz61_0 := blk_frozen BK267.out 0; have hfz61_1 := blk_frozen BK267.out 1; have hfz61_2 := blk_frozen BK267.out 2; have hfz61_3 := blk_frozen BK267.out 3; have hfz61_4 := blk_frozen BK267.out 4; have hfz61_5 := blk_frozen BK267.out 5; have hfz61_6 := blk_frozen BK267.out 6; have hfz61_7 := blk_frozen BK267.out 7; have hfz61_8 := blk_frozen BK267.out 8) | (go_at_call 9; (with_reducible refine (lodestoneref12_Put.calls k t258 t259 t260 t261 t262 t263 t264 t265 t266 t281 _ A8.out).mono ?_); rintro e w62 ⟨rfl, hb⟩; have n0_ := Aside0.mk (blk_below (g := gb257) (o := .cells #[.int .u64 a0_0, .int .u32 a0_1, .bool a0_2, .string a0_3, .int .i64 a0_4, .string a0_5, .int .i64 a0_6, .int .i64 a0_7, .string a0_8] 27 (0, 0)) (by (with_reducible repeat (first | refine blk_drewN ?_ _ | refine blk_drew ?_ | refine blk_alloc ?_ _)); exact BK257.out) hb); have n1_ := Aside0.mk (blk_below (g := gb267) (o := .cells #[.int .u64 t258, .int .u32 t259, .bool t260, .string t261, .int .i64 t262, .string t263, .int .i64 t264, .int .i64 t265, .string t266] 27 (0, 0)) (by (with_reducible repeat (first | refine blk_drewN ?_ _ | refine blk_drew ?_ | refine blk_alloc ?_ _)); exact BK267.out) hb); have n2_ := Aside0.mk (blk_below (g := gb279) (o := .cells #[.int .u64 t269, .int .u32 t270, .bool t271, .string t272, .int .i64 t273, .string t274, .int .i64 t275, .int .i64 t276, .string t277] 27 (0, 0)) (by (with_reducible repeat (first | refine blk_drewN ?_ _ | refine blk_drew ?_ | refine blk_alloc ?_ _)); exact BK279.out) hb); have n3_ := Aside0.mk (below_step (by repeat (first | (with_reducible first | exact HB.out | apply below_alloc | apply pw_below_drewN | apply below_drew1 | refine below_set ?_ GE257.out | refine below_set ?_ GE267.out | refine below_set ?_ GE279.out) | exact HB.out)) hb); clear BK257; clear BK267; clear BK279; clear HB; have BK257 := n0_; have BK267 := n1_; have BK279 := n2_; have HB := n3_; clear n0_ n1_ n2_ n3_; (try clear hb); (try clear hb2); (try clear hk); (try clear hi); have hcz63_0 : w62.cell? ⟨gb267, 0, none⟩ = some (.int .u64 t258) := (blk_cell BK267.out 0).trans rfl; have hcz63_1 : w62.cell? ⟨gb267, 1, none⟩ = some (.int .u32 t259) := (blk_cell BK267.out 1).trans rfl; have hcz63_2 : w62.cell? ⟨gb267, 2, none⟩ = some (.bool t260) := (blk_cell BK267.out 2).trans rfl; have hcz63_3 : w62.cell? ⟨gb267, 3, none⟩ = some (.string t261) := (blk_cell BK267.out 3).trans rfl; have hcz63_4 : w62.cell? ⟨gb267, 4, none⟩ = some (.int .i64 t262) := (blk_cell BK267.out 4).trans rfl; have hcz63_5 : w62.cell? ⟨gb267, 5, none⟩ = some (.string t263) := (blk_cell BK267.out 5).trans rfl; have hcz63_6 : w62.cell? ⟨gb267, 6, none⟩ = some (.int .i64 t264) := (blk_cell BK267.out 6).trans rfl; have hcz63_7 : w62.cell? ⟨gb267, 7, none⟩ = some (.int .i64 t265) := (blk_cell BK267.out 7).trans rfl; have hcz63_8 : w62.cell? ⟨gb267, 8, none⟩ = some (.string t266) := (blk_cell BK267.out 8).trans rfl; have hfz63_0 := blk_frozen BK267.out 0; have hfz63_1 := blk_frozen BK267.out 1; have hfz63_2 := blk_frozen BK267.out 2; have hfz63_3 := blk_frozen BK267.out 3; have hfz63_4 := blk_frozen BK267.out 4; have hfz63_5 := blk_frozen BK267.out 5; have hfz63_6 := blk_frozen BK267.out 6; have hfz63_7 := blk_frozen BK267.out 7; have hfz63_8 := blk_frozen BK267.out 8) | (go_at_call 10; (with_reducible refine (anchor_May.calls t258 t259 t260 t261 t262 t263 t264 t265 t266 t282 _ A10.out).mono ?_); rintro e w64 ⟨rfl, hb⟩; have n0_ := Aside0.mk (blk_below (g := gb257) (o := .cells #[.int .u64 a0_0, .int .u32 a0_1, .bool a0_2, .string a0_3, .int .i64 a0_4, .string a0_5, .int .i64 a0_6, .int .i64 a0_7, .string a0_8] 27 (0, 0)) (by (with_reducible repeat (first | refine blk_drewN ?_ _ | refine blk_drew ?_ | refine blk_alloc ?_ _)); exact BK257.out) hb); have n1_ := Aside0.mk (blk_below (g := gb267) (o := .cells #[.int .u64 t258, .int .u32 t259, .bool t260, .string t261, .int .i64 t262, .string t263, .int .i64 t264, .int .i64 t265, .string t266] 27 (0, 0)) (by (with_reducible repeat (first | refine blk_drewN ?_ _ | refine blk_drew ?_ | refine blk_alloc ?_ _)); exact BK267.out) hb); have n2_ := Aside0.mk (blk_below (g := gb279) (o := .cells #[.int .u64 t269, .int .u32 t270, .bool t271, .string t272, .int .i64 t273, .string t274, .int .i64 t275, .int .i64 t276, .string t277] 27 (0, 0)) (by (with_reducible repeat (first | refine blk_drewN ?_ _ | refine blk_drew ?_ | refine blk_alloc ?_ _)); exact BK279.out) hb); have n3_ := Aside0.mk (below_step (by repeat (first | (with_reducible first | exact HB.out | apply below_alloc | apply pw_below_drewN | apply below_drew1 | refine below_set ?_ GE257.out | refine below_set ?_ GE267.out | refine below_set ?_ GE279.out) | exact HB.out)) hb); clear BK257; clear BK267; clear BK279; clear HB; have BK257 := n0_; have BK267 := n1_; have BK279 := n2_; have HB := n3_; clear n0_ n1_ n2_ n3_; (try clear hb); (try clear hb2); (try clear hk); (try clear hi)))
            go_ret
            exact ⟨by first | rfl | (simp [errW_none, errW_some] <;> rfl) | (simp [*, errW_none, errW_some] <;> rfl), by repeat (first | (with_reducible first | exact HB.out | apply below_alloc | apply pw_below_drewN | apply below_drew1 | refine below_set ?_ GE257.out | refine below_set ?_ GE267.out | refine below_set ?_ GE279.out) | exact HB.out)⟩
          · rw [if_neg c47] at H
            have c47b0 : (t268.toList == ([] : List UInt8)) = false := beq_eq_false_iff_ne.mpr c47
            have c47b1 : (t268.toList != ([] : List UInt8)) = true := bne_iff_ne.mpr c47
            have c47f : t268.toList.isEmpty = false := by cases hh_ : t268.toList with | nil => exact absurd hh_ c47 | cons _ _ => rfl
            have c47t : t282 = true := by
              have hh_ := c11b0
              rw [c47b1] at hh_
              simpa using hh_
            by_cases c65 : t278 = 0
            · rw [if_pos c65] at H
              have c65b0 : (t278 == 0) = true := beq_iff_eq.mpr c65
              have c65b1 : (t278 != 0) = false := bne_eq_false_iff_eq.mpr c65
              clear c65
              by_cases c66 : (t269 == t258 && (t270 == t259 && (t271 == t260 && (t272.toList == t261.toList && ((t273 == t262 && (t274.toList == t263.toList)) && (t275 == t264 && (t276 == t265 && (t277.toList == t266.toList)))))))) = true
              · rw [if_pos c66] at H
                have c66s := c66
                simp only [Bool.and_eq_true, beq_iff_eq] at c66s
                have C66_ := Aside0.mk c66s
                clear c66s
                have c66b0 : (t269 == t258 && (t270 == t259 && (t271 == t260 && (t272.toList == t261.toList && ((t273 == t262 && (t274.toList == t263.toList)) && (t275 == t264 && (t276 == t265 && (t277.toList == t266.toList)))))))) = true := c66
                (try (have c66b1 : decide (t269 = t258 && (t270 == t259 && (t271 == t260 && (t272.toList == t261.toList && ((t273 == t262 && (t274.toList == t263.toList)) && (t275 == t264 && (t276 == t265 && (t277.toList == t266.toList)))))))) = true := by simpa using c66))
                (try (have c66b2 : (t269 == t258 && (t270 == t259 && (t271 == t260 && (t272.toList == t261.toList && ((t273 == t262 && (t274.toList == t263.toList)) && (t275 == t264 && (t276 == t265 && (t277.toList == t266.toList)))))))) = true := by simpa using c66))
                clear c66
                obtain rfl := Option.some.inj H
                go_enter Try.func3, Try.ntmps3
                go_wp2_with (first | ((with_reducible refine gate_dst (N := 2) rfl ?_); (try (refine gate_guard (by rfl) ?_; dsimp only)); refine box_event ?hg (N := 2) ?hd (cs := #[.int .u64 a0_0, .int .u32 a0_1, .bool a0_2, .string a0_3, .int .i64 a0_4, .string a0_5, .int .i64 a0_6, .int .i64 a0_7, .string a0_8]) (t := 27) ?hr ?_; (case hd => rfl); (case hg => rfl); (case hr => first | (go_simp; done) | (go_simp; rfl)); intro gb257 hg w67 hbox hb; have n0_ := Aside0.mk (below_step (by repeat (first | (with_reducible first | exact HB.out | apply below_alloc | apply pw_below_drewN | apply below_drew1) | exact HB.out)) hb); have n1_ := Aside0.mk (hbox); have n2_ := Aside0.mk ((by rw [hg]; exact (below_size (by repeat (first | (with_reducible first | exact HB.out | apply below_alloc | apply pw_below_drewN | apply below_drew1) | exact HB.out))) : w.heap.size ≤ gb257)); have n3_ := Aside0.mk ((by rw [hg]; exact (below_size (by repeat (first | (with_reducible first | exact HB.out | apply below_alloc | apply pw_below_drewN | apply below_drew1) | exact HB.out))) : w.heap.size ≤ gb257)); clear HB; have HB := n0_; have BK257 := n1_; have GW257 := n2_; have GE257 := n3_; clear n0_ n1_ n2_ n3_; clear hb hbox hg; have hcz68_0 : w67.cell? ⟨gb257, 0, none⟩ = some (.int .u64 a0_0) := (blk_cell BK257.out 0).trans rfl; have hcz68_1 : w67.cell? ⟨gb257, 1, none⟩ = some (.int .u32 a0_1) := (blk_cell BK257.out 1).trans rfl; have hcz68_2 : w67.cell? ⟨gb257, 2, none⟩ = some (.bool a0_2) := (blk_cell BK257.out 2).trans rfl; have hcz68_3 : w67.cell? ⟨gb257, 3, none⟩ = some (.string a0_3) := (blk_cell BK257.out 3).trans rfl; have hcz68_4 : w67.cell? ⟨gb257, 4, none⟩ = some (.int .i64 a0_4) := (blk_cell BK257.out 4).trans rfl; have hcz68_5 : w67.cell? ⟨gb257, 5, none⟩ = some (.string a0_5) := (blk_cell BK257.out 5).trans rfl; have hcz68_6 : w67.cell? ⟨gb257, 6, none⟩ = some (.int .i64 a0_6) := (blk_cell BK257.out 6).trans rfl; have hcz68_7 : w67.cell? ⟨gb257, 7, none⟩ = some (.int .i64 a0_7) := (blk_cell BK257.out 7).trans rfl; have hcz68_8 : w67.cell? ⟨gb257, 8, none⟩ = some (.string a0_8) := (blk_cell BK257.out 8).trans rfl; have hfz68_0 := blk_frozen BK257.out 0; have hfz68_1 := blk_frozen BK257.out 1; have hfz68_2 := blk_frozen BK257.out 2; have hfz68_3 := blk_frozen BK257.out 3; have hfz68_4 := blk_frozen BK257.out 4; have hfz68_5 := blk_frozen BK257.out 5; have hfz68_6 := blk_frozen BK257.out 6; have hfz68_7 := blk_frozen BK257.out 7; have hfz68_8 := blk_frozen BK257.out 8) | ((with_reducible refine gate_callee (f := 5) rfl ?_); refine goesL_ (some 11) rfl rfl Try.func5 (by kernel_rfl) rfl #[.agg #[.int .u64 a0_0, .int .u32 a0_1, .bool a0_2, .string a0_3, .int .i64 a0_4, .string a0_5, .int .i64 a0_6, .int .i64 a0_7, .string a0_8], .int .i64 a1] rfl (by (try simp only [List.map_toArray, List.map_cons, List.map_nil]); first | done | rfl | (simp only [List.length_drop, List.length_take]; rfl)) ?_; (with_reducible refine (lodestonelaw12_near.calls k a0_0 a0_1 a0_2 a0_3 a0_4 a0_5 a0_6 a0_7 a0_8 a1 t258 t259 t260 t261 t262 t263 t264 t265 t266 _ A3.out).mono ?_); rintro e w69 ⟨rfl, hb⟩; refine ⟨_, rfl, ?_⟩; have n0_ := Aside0.mk (blk_below (g := gb257) (o := .cells #[.int .u64 a0_0, .int .u32 a0_1, .bool a0_2, .string a0_3, .int .i64 a0_4, .string a0_5, .int .i64 a0_6, .int .i64 a0_7, .string a0_8] 27 (0, 0)) (by (with_reducible repeat (first | refine blk_drewN ?_ _ | refine blk_drew ?_ | refine blk_alloc ?_ _)); exact BK257.out) hb); have n1_ := Aside0.mk (below_step (by repeat (first | (with_reducible first | exact HB.out | apply below_alloc | apply pw_below_drewN | apply below_drew1 | refine below_set ?_ GE257.out) | exact HB.out)) hb); clear BK257; clear HB; have BK257 := n0_; have HB := n1_; clear n0_ n1_; (try clear hb); (try clear hb2); (try clear hk); (try clear hi)) | ((with_reducible refine gate_dst (N := 5) rfl ?_); (try (refine gate_guard (by rfl) ?_; dsimp only)); refine box_event ?hg (N := 5) ?hd (cs := #[.int .u64 0, .int .u32 0, .bool false, .string (⟨#[]⟩ : ByteArray), .int .i64 0, .string (⟨#[]⟩ : ByteArray), .int .i64 0, .int .i64 0, .string (⟨#[]⟩ : ByteArray)]) (t := 27) ?hr ?_; (case hd => rfl); (case hg => rfl); (case hr => first | (go_simp; done) | (go_simp; rfl)); intro gb267 hg w70 hbox hb; have n0_ := Aside0.mk (blk_below (g := gb257) (o := .cells #[.int .u64 a0_0, .int .u32 a0_1, .bool a0_2, .string a0_3, .int .i64 a0_4, .string a0_5, .int .i64 a0_6, .int .i64 a0_7, .string a0_8] 27 (0, 0)) (by (with_reducible repeat (first | refine blk_drewN ?_ _ | refine blk_drew ?_ | refine blk_alloc ?_ _)); exact BK257.out) hb); have n1_ := Aside0.mk (below_step (by repeat (first | (with_reducible first | exact HB.out | apply below_alloc | apply pw_below_drewN | apply below_drew1 | refine below_set ?_ GE257.out) | exact HB.out)) hb); have n2_ := Aside0.mk (hbox); have n3_ := Aside0.mk ((by rw [hg]; exact (below_size (by repeat (first | (with_reducible first | exact HB.out | apply below_alloc | apply pw_below_drewN | apply below_drew1 | refine below_set ?_ GE257.out) | exact HB.out))) : w.heap.size ≤ gb267)); have n4_ := Aside0.mk ((by rw [hg]; exact (below_size (by repeat (first | (with_reducible first | exact HB.out | apply below_alloc | apply pw_below_drewN | apply below_drew1 | refine below_set ?_ GE257.out) | exact HB.out))) : w.heap.size ≤ gb267)); have n5_ := Aside0.mk ((by rw [hg]; exact Nat.ne_of_lt (blk_lt (g := gb257) (o := .cells #[.int .u64 a0_0, .int .u32 a0_1, .bool a0_2, .string a0_3, .int .i64 a0_4, .string a0_5, .int .i64 a0_6, .int .i64 a0_7, .string a0_8] 27 (0, 0)) (by (with_reducible repeat (first | refine blk_drewN ?_ _ | refine blk_drew ?_ | refine blk_alloc ?_ _)); exact BK257.out)) : gb257 ≠ gb267)); have n6_ := Aside0.mk ((by rw [hg]; exact Nat.ne_of_gt (blk_lt (g := gb257) (o := .cells #[.int .u64 a0_0, .int .u32 a0_1, .bool a0_2, .string a0_3, .int .i64 a0_4, .string a0_5, .int .i64 a0_6, .int .i64 a0_7, .string a0_8] 27 (0, 0)) (by (with_reducible repeat (first | refine blk_drewN ?_ _ | refine blk_drew ?_ | refine blk_alloc ?_ _)); exact BK257.out)) : gb267 ≠ gb257)); clear BK257; clear HB; have BK257 := n0_; have HB := n1_; have BK267 := n2_; have GW267 := n3_; have GE267 := n4_; have NB257_267 := n5_; have NB267_257 := n6_; clear n0_ n1_ n2_ n3_ n4_ n5_ n6_; clear hb hbox hg; have hnb71 := NB267_257.out; have hnc71 := NB257_267.out; have hcz72_0 : w70.cell? ⟨gb267, 0, none⟩ = some (.int .u64 0) := (blk_cell BK267.out 0).trans rfl; have hcz72_1 : w70.cell? ⟨gb267, 1, none⟩ = some (.int .u32 0) := (blk_cell BK267.out 1).trans rfl; have hcz72_2 : w70.cell? ⟨gb267, 2, none⟩ = some (.bool false) := (blk_cell BK267.out 2).trans rfl; have hcz72_3 : w70.cell? ⟨gb267, 3, none⟩ = some (.string (⟨#[]⟩ : ByteArray)) := (blk_cell BK267.out 3).trans rfl; have hcz72_4 : w70.cell? ⟨gb267, 4, none⟩ = some (.int .i64 0) := (blk_cell BK267.out 4).trans rfl; have hcz72_5 : w70.cell? ⟨gb267, 5, none⟩ = some (.string (⟨#[]⟩ : ByteArray)) := (blk_cell BK267.out 5).trans rfl; have hcz72_6 : w70.cell? ⟨gb267, 6, none⟩ = some (.int .i64 0) := (blk_cell BK267.out 6).trans rfl; have hcz72_7 : w70.cell? ⟨gb267, 7, none⟩ = some (.int .i64 0) := (blk_cell BK267.out 7).trans rfl; have hcz72_8 : w70.cell? ⟨gb267, 8, none⟩ = some (.string (⟨#[]⟩ : ByteArray)) := (blk_cell BK267.out 8).trans rfl; have hfz72_0 := blk_frozen BK267.out 0; have hfz72_1 := blk_frozen BK267.out 1; have hfz72_2 := blk_frozen BK267.out 2; have hfz72_3 := blk_frozen BK267.out 3; have hfz72_4 := blk_frozen BK267.out 4; have hfz72_5 := blk_frozen BK267.out 5; have hfz72_6 := blk_frozen BK267.out 6; have hfz72_7 := blk_frozen BK267.out 7; have hfz72_8 := blk_frozen BK267.out 8) | ((with_reducible refine gate_callee (f := 6) rfl ?_); refine goesL_ (some 13) rfl rfl Try.func6 (by kernel_rfl) rfl #[.agg #[.int .u64 t258, .int .u32 t259, .bool t260, .string t261, .int .i64 t262, .string t263, .int .i64 t264, .int .i64 t265, .string t266]] rfl (by (try simp only [List.map_toArray, List.map_cons, List.map_nil]); first | done | rfl | (simp only [List.length_drop, List.length_take]; rfl)) ?_; (with_reducible refine (anchor_Put.calls k t258 t259 t260 t261 t262 t263 t264 t265 t266 t268 _ A4.out).mono ?_); rintro e w73 ⟨rfl, hb⟩; refine ⟨_, rfl, ?_⟩; have n0_ := Aside0.mk (blk_below (g := gb257) (o := .cells #[.int .u64 a0_0, .int .u32 a0_1, .bool a0_2, .string a0_3, .int .i64 a0_4, .string a0_5, .int .i64 a0_6, .int .i64 a0_7, .string a0_8] 27 (0, 0)) (by (with_reducible repeat (first | refine blk_drewN ?_ _ | refine blk_drew ?_ | refine blk_alloc ?_ _)); refine blk_far ?_ NB257_267.out _; (with_reducible repeat (first | refine blk_drewN ?_ _ | refine blk_drew ?_ | refine blk_alloc ?_ _)); refine blk_far ?_ NB257_267.out _; (with_reducible repeat (first | refine blk_drewN ?_ _ | refine blk_drew ?_ | refine blk_alloc ?_ _)); refine blk_far ?_ NB257_267.out _; (with_reducible repeat (first | refine blk_drewN ?_ _ | refine blk_drew ?_ | refine blk_alloc ?_ _)); refine blk_far ?_ NB257_267.out _; (with_reducible repeat (first | refine blk_drewN ?_ _ | refine blk_drew ?_ | refine blk_alloc ?_ _)); refine blk_far ?_ NB257_267.out _; (with_reducible repeat (first | refine blk_drewN ?_ _ | refine blk_drew ?_ | refine blk_alloc ?_ _)); refine blk_far ?_ NB257_267.out _; (with_reducible repeat (first | refine blk_drewN ?_ _ | refine blk_drew ?_ | refine blk_alloc ?_ _)); refine blk_far ?_ NB257_267.out _; (with_reducible repeat (first | refine blk_drewN ?_ _ | refine blk_drew ?_ | refine blk_alloc ?_ _)); refine blk_far ?_ NB257_267.out _; (with_reducible repeat (first | refine blk_drewN ?_ _ | refine blk_drew ?_ | refine blk_alloc ?_ _)); refine blk_far ?_ NB257_267.out _; (with_reducible repeat (first | refine blk_drewN ?_ _ | refine blk_drew ?_ | refine blk_alloc ?_ _)); exact BK257.out) hb); have n1_ := Aside0.mk (blk_below (g := gb267) (o := .cells #[.int .u64 t258, .int .u32 t259, .bool t260, .string t261, .int .i64 t262, .string t263, .int .i64 t264, .int .i64 t265, .string t266] 27 (0, 0)) (by (with_reducible repeat (first | refine blk_drewN ?_ _ | refine blk_drew ?_ | refine blk_alloc ?_ _)); refine blk_put (cs := #[.int .u64 t258, .int .u32 t259, .bool t260, .string t261, .int .i64 t262, .string t263, .int .i64 t264, .int .i64 t265, .string (⟨#[]⟩ : ByteArray)]) ?_ 8 _ rfl; (with_reducible repeat (first | refine blk_drewN ?_ _ | refine blk_drew ?_ | refine blk_alloc ?_ _)); refine blk_put (cs := #[.int .u64 t258, .int .u32 t259, .bool t260, .string t261, .int .i64 t262, .string t263, .int .i64 t264, .int .i64 0, .string (⟨#[]⟩ : ByteArray)]) ?_ 7 _ rfl; (with_reducible repeat (first | refine blk_drewN ?_ _ | refine blk_drew ?_ | refine blk_alloc ?_ _)); refine blk_put (cs := #[.int .u64 t258, .int .u32 t259, .bool t260, .string t261, .int .i64 t262, .string t263, .int .i64 0, .int .i64 0, .string (⟨#[]⟩ : ByteArray)]) ?_ 6 _ rfl; (with_reducible repeat (first | refine blk_drewN ?_ _ | refine blk_drew ?_ | refine blk_alloc ?_ _)); refine blk_put (cs := #[.int .u64 t258, .int .u32 t259, .bool t260, .string t261, .int .i64 t262, .string (⟨#[]⟩ : ByteArray), .int .i64 0, .int .i64 0, .string (⟨#[]⟩ : ByteArray)]) ?_ 5 _ rfl; (with_reducible repeat (first | refine blk_drewN ?_ _ | refine blk_drew ?_ | refine blk_alloc ?_ _)); refine blk_put (cs := #[.int .u64 t258, .int .u32 t259, .bool t260, .string t261, .int .i64 0, .string (⟨#[]⟩ : ByteArray), .int .i64 0, .int .i64 0, .string (⟨#[]⟩ : ByteArray)]) ?_ 4 _ rfl; (with_reducible repeat (first | refine blk_drewN ?_ _ | refine blk_drew ?_ | refine blk_alloc ?_ _)); refine blk_put (cs := #[.int .u64 t258, .int .u32 t259, .bool t260, .string (⟨#[]⟩ : ByteArray), .int .i64 0, .string (⟨#[]⟩ : ByteArray), .int .i64 0, .int .i64 0, .string (⟨#[]⟩ : ByteArray)]) ?_ 3 _ rfl; (with_reducible repeat (first | refine blk_drewN ?_ _ | refine blk_drew ?_ | refine blk_alloc ?_ _)); refine blk_put (cs := #[.int .u64 t258, .int .u32 t259, .bool false, .string (⟨#[]⟩ : ByteArray), .int .i64 0, .string (⟨#[]⟩ : ByteArray), .int .i64 0, .int .i64 0, .string (⟨#[]⟩ : ByteArray)]) ?_ 2 _ rfl; (with_reducible repeat (first | refine blk_drewN ?_ _ | refine blk_drew ?_ | refine blk_alloc ?_ _)); refine blk_put (cs := #[.int .u64 t258, .int .u32 0, .bool false, .string (⟨#[]⟩ : ByteArray), .int .i64 0, .string (⟨#[]⟩ : ByteArray), .int .i64 0, .int .i64 0, .string (⟨#[]⟩ : ByteArray)]) ?_ 1 _ rfl; (with_reducible repeat (first | refine blk_drewN ?_ _ | refine blk_drew ?_ | refine blk_alloc ?_ _)); refine blk_put (cs := #[.int .u64 0, .int .u32 0, .bool false, .string (⟨#[]⟩ : ByteArray), .int .i64 0, .string (⟨#[]⟩ : ByteArray), .int .i64 0, .int .i64 0, .string (⟨#[]⟩ : ByteArray)]) ?_ 0 _ rfl; (with_reducible repeat (first | refine blk_drewN ?_ _ | refine blk_drew ?_ | refine blk_alloc ?_ _)); exact BK267.out) hb); have n2_ := Aside0.mk (below_step (by repeat (first | (with_reducible first | exact HB.out | apply below_alloc | apply pw_below_drewN | apply below_drew1 | refine below_set ?_ GE257.out | refine below_set ?_ GE267.out) | exact HB.out)) hb); clear BK257; clear BK267; clear HB; have BK257 := n0_; have BK267 := n1_; have HB := n2_; clear n0_ n1_ n2_; (try clear hb); (try clear hb2); (try clear hk); (try clear hi)) | ((with_reducible refine gate_callee (f := 7) rfl ?_); refine goesL_ (some 16) rfl rfl Try.func7 (by kernel_rfl) rfl #[.string t268] rfl (by (try simp only [List.map_toArray, List.map_cons, List.map_nil]); first | done | rfl | (simp only [List.length_drop, List.length_take]; rfl)) ?_; (with_reducible refine (anchor_Get.calls k t268 t269 t270 t271 t272 t273 t274 t275 t276 t277 t278 _ A5.out).mono ?_); rintro e w74 ⟨rfl, hb⟩; refine ⟨_, rfl, ?_⟩; have n0_ := Aside0.mk (blk_below (g := gb257) (o := .cells #[.int .u64 a0_0, .int .u32 a0_1, .bool a0_2, .string a0_3, .int .i64 a0_4, .string a0_5, .int .i64 a0_6, .int .i64 a0_7, .string a0_8] 27 (0, 0)) (by (with_reducible repeat (first | refine blk_drewN ?_ _ | refine blk_drew ?_ | refine blk_alloc ?_ _)); exact BK257.out) hb); have n1_ := Aside0.mk (blk_below (g := gb267) (o := .cells #[.int .u64 t258, .int .u32 t259, .bool t260, .string t261, .int .i64 t262, .string t263, .int .i64 t264, .int .i64 t265, .string t266] 27 (0, 0)) (by (with_reducible repeat (first | refine blk_drewN ?_ _ | refine blk_drew ?_ | refine blk_alloc ?_ _)); exact BK267.out) hb); have n2_ := Aside0.mk (below_step (by repeat (first | (with_reducible first | exact HB.out | apply below_alloc | apply pw_below_drewN | apply below_drew1 | refine below_set ?_ GE257.out | refine below_set ?_ GE267.out) | exact HB.out)) hb); clear BK257; clear BK267; clear HB; have BK257 := n0_; have BK267 := n1_; have HB := n2_; clear n0_ n1_ n2_; (try clear hb); (try clear hb2); (try clear hk); (try clear hi)) | ((with_reducible refine gate_dst (N := 7) rfl ?_); (try (refine gate_guard (by rfl) ?_; dsimp only)); refine box_event ?hg (N := 7) ?hd (cs := #[.int .u64 0, .int .u32 0, .bool false, .string (⟨#[]⟩ : ByteArray), .int .i64 0, .string (⟨#[]⟩ : ByteArray), .int .i64 0, .int .i64 0, .string (⟨#[]⟩ : ByteArray)]) (t := 27) ?hr ?_; (case hd => rfl); (case hg => rfl); (case hr => first | (go_simp; done) | (go_simp; rfl)); intro gb279 hg w75 hbox hb; have n0_ := Aside0.mk (blk_below (g := gb257) (o := .cells #[.int .u64 a0_0, .int .u32 a0_1, .bool a0_2, .string a0_3, .int .i64 a0_4, .string a0_5, .int .i64 a0_6, .int .i64 a0_7, .string a0_8] 27 (0, 0)) (by (with_reducible repeat (first | refine blk_drewN ?_ _ | refine blk_drew ?_ | refine blk_alloc ?_ _)); exact BK257.out) hb); have n1_ := Aside0.mk (blk_below (g := gb267) (o := .cells #[.int .u64 t258, .int .u32 t259, .bool t260, .string t261, .int .i64 t262, .string t263, .int .i64 t264, .int .i64 t265, .string t266] 27 (0, 0)) (by (with_reducible repeat (first | refine blk_drewN ?_ _ | refine blk_drew ?_ | refine blk_alloc ?_ _)); exact BK267.out) hb); have n2_ := Aside0.mk (below_step (by repeat (first | (with_reducible first | exact HB.out | apply below_alloc | apply pw_below_drewN | apply below_drew1 | refine below_set ?_ GE257.out | refine below_set ?_ GE267.out) | exact HB.out)) hb); have n3_ := Aside0.mk (hbox); have n4_ := Aside0.mk ((by rw [hg]; exact (below_size (by repeat (first | (with_reducible first | exact HB.out | apply below_alloc | apply pw_below_drewN | apply below_drew1 | refine below_set ?_ GE257.out | refine below_set ?_ GE267.out) | exact HB.out))) : w.heap.size ≤ gb279)); have n5_ := Aside0.mk ((by rw [hg]; exact (below_size (by repeat (first | (with_reducible first | exact HB.out | apply below_alloc | apply pw_below_drewN | apply below_drew1 | refine below_set ?_ GE257.out | refine below_set ?_ GE267.out) | exact HB.out))) : w.heap.size ≤ gb279)); have n6_ := Aside0.mk ((by rw [hg]; exact Nat.ne_of_lt (blk_lt (g := gb257) (o := .cells #[.int .u64 a0_0, .int .u32 a0_1, .bool a0_2, .string a0_3, .int .i64 a0_4, .string a0_5, .int .i64 a0_6, .int .i64 a0_7, .string a0_8] 27 (0, 0)) (by (with_reducible repeat (first | refine blk_drewN ?_ _ | refine blk_drew ?_ | refine blk_alloc ?_ _)); exact BK257.out)) : gb257 ≠ gb279)); have n7_ := Aside0.mk ((by rw [hg]; exact Nat.ne_of_gt (blk_lt (g := gb257) (o := .cells #[.int .u64 a0_0, .int .u32 a0_1, .bool a0_2, .string a0_3, .int .i64 a0_4, .string a0_5, .int .i64 a0_6, .int .i64 a0_7, .string a0_8] 27 (0, 0)) (by (with_reducible repeat (first | refine blk_drewN ?_ _ | refine blk_drew ?_ | refine blk_alloc ?_ _)); exact BK257.out)) : gb279 ≠ gb257)); have n8_ := Aside0.mk ((by rw [hg]; exact Nat.ne_of_lt (blk_lt (g := gb267) (o := .cells #[.int .u64 t258, .int .u32 t259, .bool t260, .string t261, .int .i64 t262, .string t263, .int .i64 t264, .int .i64 t265, .string t266] 27 (0, 0)) (by (with_reducible repeat (first | refine blk_drewN ?_ _ | refine blk_drew ?_ | refine blk_alloc ?_ _)); exact BK267.out)) : gb267 ≠ gb279)); have n9_ := Aside0.mk ((by rw [hg]; exact Nat.ne_of_gt (blk_lt (g := gb267) (o := .cells #[.int .u64 t258, .int .u32 t259, .bool t260, .string t261, .int .i64 t262, .string t263, .int .i64 t264, .int .i64 t265, .string t266] 27 (0, 0)) (by (with_reducible repeat (first | refine blk_drewN ?_ _ | refine blk_drew ?_ | refine blk_alloc ?_ _)); exact BK267.out)) : gb279 ≠ gb267)); clear BK257; clear BK267; clear HB; have BK257 := n0_; have BK267 := n1_; have HB := n2_; have BK279 := n3_; have GW279 := n4_; have GE279 := n5_; have NB257_279 := n6_; have NB279_257 := n7_; have NB267_279 := n8_; have NB279_267 := n9_; clear n0_ n1_ n2_ n3_ n4_ n5_ n6_ n7_ n8_ n9_; clear hb hbox hg; have hnb76 := NB279_257.out; have hnc76 := NB257_279.out; have hnb77 := NB279_267.out; have hnc77 := NB267_279.out; have hcz78_0 : w75.cell? ⟨gb279, 0, none⟩ = some (.int .u64 0) := (blk_cell BK279.out 0).trans rfl; have hcz78_1 : w75.cell? ⟨gb279, 1, none⟩ = some (.int .u32 0) := (blk_cell BK279.out 1).trans rfl; have hcz78_2 : w75.cell? ⟨gb279, 2, none⟩ = some (.bool false) := (blk_cell BK279.out 2).trans rfl; have hcz78_3 : w75.cell? ⟨gb279, 3, none⟩ = some (.string (⟨#[]⟩ : ByteArray)) := (blk_cell BK279.out 3).trans rfl; have hcz78_4 : w75.cell? ⟨gb279, 4, none⟩ = some (.int .i64 0) := (blk_cell BK279.out 4).trans rfl; have hcz78_5 : w75.cell? ⟨gb279, 5, none⟩ = some (.string (⟨#[]⟩ : ByteArray)) := (blk_cell BK279.out 5).trans rfl; have hcz78_6 : w75.cell? ⟨gb279, 6, none⟩ = some (.int .i64 0) := (blk_cell BK279.out 6).trans rfl; have hcz78_7 : w75.cell? ⟨gb279, 7, none⟩ = some (.int .i64 0) := (blk_cell BK279.out 7).trans rfl; have hcz78_8 : w75.cell? ⟨gb279, 8, none⟩ = some (.string (⟨#[]⟩ : ByteArray)) := (blk_cell BK279.out 8).trans rfl; have hfz78_0 := blk_frozen BK279.out 0; have hfz78_1 := blk_frozen BK279.out 1; have hfz78_2 := blk_frozen BK279.out 2; have hfz78_3 := blk_frozen BK279.out 3; have hfz78_4 := blk_frozen BK279.out 4; have hfz78_5 := blk_frozen BK279.out 5; have hfz78_6 := blk_frozen BK279.out 6; have hfz78_7 := blk_frozen BK279.out 7; have hfz78_8 := blk_frozen BK279.out 8) | ((with_reducible refine gate_callee (f := 8) rfl ?_); refine goesL_ (some 19) rfl rfl Try.func8 (by kernel_rfl) rfl #[] rfl (by (try simp only [List.map_toArray, List.map_cons, List.map_nil]); first | done | rfl | (simp only [List.length_drop, List.length_take]; rfl)) ?_; (with_reducible refine (lodestonelaw12_awake.calls k  true _ A6.out).mono ?_); rintro e w79 ⟨rfl, hb⟩; refine ⟨_, rfl, ?_⟩; have n0_ := Aside0.mk (blk_below (g := gb257) (o := .cells #[.int .u64 a0_0, .int .u32 a0_1, .bool a0_2, .string a0_3, .int .i64 a0_4, .string a0_5, .int .i64 a0_6, .int .i64 a0_7, .string a0_8] 27 (0, 0)) (by (with_reducible repeat (first | refine blk_drewN ?_ _ | refine blk_drew ?_ | refine blk_alloc ?_ _)); refine blk_far ?_ NB257_279.out _; (with_reducible repeat (first | refine blk_drewN ?_ _ | refine blk_drew ?_ | refine blk_alloc ?_ _)); refine blk_far ?_ NB257_279.out _; (with_reducible repeat (first | refine blk_drewN ?_ _ | refine blk_drew ?_ | refine blk_alloc ?_ _)); refine blk_far ?_ NB257_279.out _; (with_reducible repeat (first | refine blk_drewN ?_ _ | refine blk_drew ?_ | refine blk_alloc ?_ _)); refine blk_far ?_ NB257_279.out _; (with_reducible repeat (first | refine blk_drewN ?_ _ | refine blk_drew ?_ | refine blk_alloc ?_ _)); refine blk_far ?_ NB257_279.out _; (with_reducible repeat (first | refine blk_drewN ?_ _ | refine blk_drew ?_ | refine blk_alloc ?_ _)); refine blk_far ?_ NB257_279.out _; (with_reducible repeat (first | refine blk_drewN ?_ _ | refine blk_drew ?_ | refine blk_alloc ?_ _)); refine blk_far ?_ NB257_279.out _; (with_reducible repeat (first | refine blk_drewN ?_ _ | refine blk_drew ?_ | refine blk_alloc ?_ _)); refine blk_far ?_ NB257_279.out _; (with_reducible repeat (first | refine blk_drewN ?_ _ | refine blk_drew ?_ | refine blk_alloc ?_ _)); refine blk_far ?_ NB257_279.out _; (with_reducible repeat (first | refine blk_drewN ?_ _ | refine blk_drew ?_ | refine blk_alloc ?_ _)); exact BK257.out) hb); have n1_ := Aside0.mk (blk_below (g := gb267) (o := .cells #[.int .u64 t258, .int .u32 t259, .bool t260, .string t261, .int .i64 t262, .string t263, .int .i64 t264, .int .i64 t265, .string t266] 27 (0, 0)) (by (with_reducible repeat (first | refine blk_drewN ?_ _ | refine blk_drew ?_ | refine blk_alloc ?_ _)); refine blk_far ?_ NB267_279.out _; (with_reducible repeat (first | refine blk_drewN ?_ _ | refine blk_drew ?_ | refine blk_alloc ?_ _)); refine blk_far ?_ NB267_279.out _; (with_reducible repeat (first | refine blk_drewN ?_ _ | refine blk_drew ?_ | refine blk_alloc ?_ _)); refine blk_far ?_ NB267_279.out _; (with_reducible repeat (first | refine blk_drewN ?_ _ | refine blk_drew ?_ | refine blk_alloc ?_ _)); refine blk_far ?_ NB267_279.out _; (with_reducible repeat (first | refine blk_drewN ?_ _ | refine blk_drew ?_ | refine blk_alloc ?_ _)); refine blk_far ?_ NB267_279.out _; (with_reducible repeat (first | refine blk_drewN ?_ _ | refine blk_drew ?_ | refine blk_alloc ?_ _)); refine blk_far ?_ NB267_279.out _; (with_reducible repeat (first | refine blk_drewN ?_ _ | refine blk_drew ?_ | refine blk_alloc ?_ _)); refine blk_far ?_ NB267_279.out _; (with_reducible repeat (first | refine blk_drewN ?_ _ | refine blk_drew ?_ | refine blk_alloc ?_ _)); refine blk_far ?_ NB267_279.out _; (with_reducible repeat (first | refine blk_drewN ?_ _ | refine blk_drew ?_ | refine blk_alloc ?_ _)); refine blk_far ?_ NB267_279.out _; (with_reducible repeat (first | refine blk_drewN ?_ _ | refine blk_drew ?_ | refine blk_alloc ?_ _)); exact BK267.out) hb); have n2_ := Aside0.mk (blk_below (g := gb279) (o := .cells #[.int .u64 t269, .int .u32 t270, .bool t271, .string t272, .int .i64 t273, .string t274, .int .i64 t275, .int .i64 t276, .string t277] 27 (0, 0)) (by (with_reducible repeat (first | refine blk_drewN ?_ _ | refine blk_drew ?_ | refine blk_alloc ?_ _)); refine blk_put (cs := #[.int .u64 t269, .int .u32 t270, .bool t271, .string t272, .int .i64 t273, .string t274, .int .i64 t275, .int .i64 t276, .string (⟨#[]⟩ : ByteArray)]) ?_ 8 _ rfl; (with_reducible repeat (first | refine blk_drewN ?_ _ | refine blk_drew ?_ | refine blk_alloc ?_ _)); refine blk_put (cs := #[.int .u64 t269, .int .u32 t270, .bool t271, .string t272, .int .i64 t273, .string t274, .int .i64 t275, .int .i64 0, .string (⟨#[]⟩ : ByteArray)]) ?_ 7 _ rfl; (with_reducible repeat (first | refine blk_drewN ?_ _ | refine blk_drew ?_ | refine blk_alloc ?_ _)); refine blk_put (cs := #[.int .u64 t269, .int .u32 t270, .bool t271, .string t272, .int .i64 t273, .string t274, .int .i64 0, .int .i64 0, .string (⟨#[]⟩ : ByteArray)]) ?_ 6 _ rfl; (with_reducible repeat (first | refine blk_drewN ?_ _ | refine blk_drew ?_ | refine blk_alloc ?_ _)); refine blk_put (cs := #[.int .u64 t269, .int .u32 t270, .bool t271, .string t272, .int .i64 t273, .string (⟨#[]⟩ : ByteArray), .int .i64 0, .int .i64 0, .string (⟨#[]⟩ : ByteArray)]) ?_ 5 _ rfl; (with_reducible repeat (first | refine blk_drewN ?_ _ | refine blk_drew ?_ | refine blk_alloc ?_ _)); refine blk_put (cs := #[.int .u64 t269, .int .u32 t270, .bool t271, .string t272, .int .i64 0, .string (⟨#[]⟩ : ByteArray), .int .i64 0, .int .i64 0, .string (⟨#[]⟩ : ByteArray)]) ?_ 4 _ rfl; (with_reducible repeat (first | refine blk_drewN ?_ _ | refine blk_drew ?_ | refine blk_alloc ?_ _)); refine blk_put (cs := #[.int .u64 t269, .int .u32 t270, .bool t271, .string (⟨#[]⟩ : ByteArray), .int .i64 0, .string (⟨#[]⟩ : ByteArray), .int .i64 0, .int .i64 0, .string (⟨#[]⟩ : ByteArray)]) ?_ 3 _ rfl; (with_reducible repeat (first | refine blk_drewN ?_ _ | refine blk_drew ?_ | refine blk_alloc ?_ _)); refine blk_put (cs := #[.int .u64 t269, .int .u32 t270, .bool false, .string (⟨#[]⟩ : ByteArray), .int .i64 0, .string (⟨#[]⟩ : ByteArray), .int .i64 0, .int .i64 0, .string (⟨#[]⟩ : ByteArray)]) ?_ 2 _ rfl; (with_reducible repeat (first | refine blk_drewN ?_ _ | refine blk_drew ?_ | refine blk_alloc ?_ _)); refine blk_put (cs := #[.int .u64 t269, .int .u32 0, .bool false, .string (⟨#[]⟩ : ByteArray), .int .i64 0, .string (⟨#[]⟩ : ByteArray), .int .i64 0, .int .i64 0, .string (⟨#[]⟩ : ByteArray)]) ?_ 1 _ rfl; (with_reducible repeat (first | refine blk_drewN ?_ _ | refine blk_drew ?_ | refine blk_alloc ?_ _)); refine blk_put (cs := #[.int .u64 0, .int .u32 0, .bool false, .string (⟨#[]⟩ : ByteArray), .int .i64 0, .string (⟨#[]⟩ : ByteArray), .int .i64 0, .int .i64 0, .string (⟨#[]⟩ : ByteArray)]) ?_ 0 _ rfl; (with_reducible repeat (first | refine blk_drewN ?_ _ | refine blk_drew ?_ | refine blk_alloc ?_ _)); exact BK279.out) hb); have n3_ := Aside0.mk (below_step (by repeat (first | (with_reducible first | exact HB.out | apply below_alloc | apply pw_below_drewN | apply below_drew1 | refine below_set ?_ GE257.out | refine below_set ?_ GE267.out | refine below_set ?_ GE279.out) | exact HB.out)) hb); clear BK257; clear BK267; clear BK279; clear HB; have BK257 := n0_; have BK267 := n1_; have BK279 := n2_; have HB := n3_; clear n0_ n1_ n2_ n3_; (try clear hb); (try clear hb2); (try clear hk); (try clear hi); have hcz80_0 : w79.cell? ⟨gb267, 0, none⟩ = some (.int .u64 t258) := (blk_cell BK267.out 0).trans rfl; have hcz80_1 : w79.cell? ⟨gb267, 1, none⟩ = some (.int .u32 t259) := (blk_cell BK267.out 1).trans rfl; have hcz80_2 : w79.cell? ⟨gb267, 2, none⟩ = some (.bool t260) := (blk_cell BK267.out 2).trans rfl; have hcz80_3 : w79.cell? ⟨gb267, 3, none⟩ = some (.string t261) := (blk_cell BK267.out 3).trans rfl; have hcz80_4 : w79.cell? ⟨gb267, 4, none⟩ = some (.int .i64 t262) := (blk_cell BK267.out 4).trans rfl; have hcz80_5 : w79.cell? ⟨gb267, 5, none⟩ = some (.string t263) := (blk_cell BK267.out 5).trans rfl; have hcz80_6 : w79.cell? ⟨gb267, 6, none⟩ = some (.int .i64 t264) := (blk_cell BK267.out 6).trans rfl; have hcz80_7 : w79.cell? ⟨gb267, 7, none⟩ = some (.int .i64 t265) := (blk_cell BK267.out 7).trans rfl; have hcz80_8 : w79.cell? ⟨gb267, 8, none⟩ = some (.string t266) := (blk_cell BK267.out 8).trans rfl; have hfz80_0 := blk_frozen BK267.out 0; have hfz80_1 := blk_frozen BK267.out 1; have hfz80_2 := blk_frozen BK267.out 2; have hfz80_3 := blk_frozen BK267.out 3; have hfz80_4 := blk_frozen BK267.out 4; have hfz80_5 := blk_frozen BK267.out 5; have hfz80_6 := blk_frozen BK267.out 6; have hfz80_7 := blk_frozen BK267.out 7; have hfz80_8 := blk_frozen BK267.out 8) | (go_at_call 9; (with_reducible refine (lodestoneref12_Put.calls k t258 t259 t260 t261 t262 t263 t264 t265 t266 t281 _ A8.out).mono ?_); rintro e w81 ⟨rfl, hb⟩; have n0_ := Aside0.mk (blk_below (g := gb257) (o := .cells #[.int .u64 a0_0, .int .u32 a0_1, .bool a0_2, .string a0_3, .int .i64 a0_4, .string a0_5, .int .i64 a0_6, .int .i64 a0_7, .string a0_8] 27 (0, 0)) (by (with_reducible repeat (first | refine blk_drewN ?_ _ | refine blk_drew ?_ | refine blk_alloc ?_ _)); exact BK257.out) hb); have n1_ := Aside0.mk (blk_below (g := gb267) (o := .cells #[.int .u64 t258, .int .u32 t259, .bool t260, .string t261, .int .i64 t262, .string t263, .int .i64 t264, .int .i64 t265, .string t266] 27 (0, 0)) (by (with_reducible repeat (first | refine blk_drewN ?_ _ | refine blk_drew ?_ | refine blk_alloc ?_ _)); exact BK267.out) hb); have n2_ := Aside0.mk (blk_below (g := gb279) (o := .cells #[.int .u64 t269, .int .u32 t270, .bool t271, .string t272, .int .i64 t273, .string t274, .int .i64 t275, .int .i64 t276, .string t277] 27 (0, 0)) (by (with_reducible repeat (first | refine blk_drewN ?_ _ | refine blk_drew ?_ | refine blk_alloc ?_ _)); exact BK279.out) hb); have n3_ := Aside0.mk (below_step (by repeat (first | (with_reducible first | exact HB.out | apply below_alloc | apply pw_below_drewN | apply below_drew1 | refine below_set ?_ GE257.out | refine below_set ?_ GE267.out | refine below_set ?_ GE279.out) | exact HB.out)) hb); clear BK257; clear BK267; clear BK279; clear HB; have BK257 := n0_; have BK267 := n1_; have BK279 := n2_; have HB := n3_; clear n0_ n1_ n2_ n3_; (try clear hb); (try clear hb2); (try clear hk); (try clear hi); have hcz82_0 : w81.cell? ⟨gb267, 0, none⟩ = some (.int .u64 t258) := (blk_cell BK267.out 0).trans rfl; have hcz82_1 : w81.cell? ⟨gb267, 1, none⟩ = some (.int .u32 t259) := (blk_cell BK267.out 1).trans rfl; have hcz82_2 : w81.cell? ⟨gb267, 2, none⟩ = some (.bool t260) := (blk_cell BK267.out 2).trans rfl; have hcz82_3 : w81.cell? ⟨gb267, 3, none⟩ = some (.string t261) := (blk_cell BK267.out 3).trans rfl; have hcz82_4 : w81.cell? ⟨gb267, 4, none⟩ = some (.int .i64 t262) := (blk_cell BK267.out 4).trans rfl; have hcz82_5 : w81.cell? ⟨gb267, 5, none⟩ = some (.string t263) := (blk_cell BK267.out 5).trans rfl; have hcz82_6 : w81.cell? ⟨gb267, 6, none⟩ = some (.int .i64 t264) := (blk_cell BK267.out 6).trans rfl; have hcz82_7 : w81.cell? ⟨gb267, 7, none⟩ = some (.int .i64 t265) := (blk_cell BK267.out 7).trans rfl; have hcz82_8 : w81.cell? ⟨gb267, 8, none⟩ = some (.string t266) := (blk_cell BK267.out 8).trans rfl; have hfz82_0 := blk_frozen BK267.out 0; have hfz82_1 := blk_frozen BK267.out 1; have hfz82_2 := blk_frozen BK267.out 2; have hfz82_3 := blk_frozen BK267.out 3; have hfz82_4 := blk_frozen BK267.out 4; have hfz82_5 := blk_frozen BK267.out 5; have hfz82_6 := blk_frozen BK267.out 6; have hfz82_7 := blk_frozen BK267.out 7; have hfz82_8 := blk_frozen BK267.out 8) | (go_at_call 10; fail))
                (with_reducible refine (anchor_May.calls t258 t259 t260 t261 t262 t263 t264 t265 t266 t282 _ A10.out).mono ?_)
                rintro e w83 ⟨rfl, hb⟩
                have n0_ := Aside0.mk (blk_below (g := gb257) (o := .cells #[.int .u64 a0_0, .int .u32 a0_1, .bool a0_2, .string a0_3, .int .i64 a0_4, .string a0_5, .int .i64 a0_6, .int .i64 a0_7, .string a0_8] 27 (0, 0)) (by (with_reducible repeat (first | refine blk_drewN ?_ _ | refine blk_drew ?_ | refine blk_alloc ?_ _)); exact BK257.out) hb)
                have n1_ := Aside0.mk (blk_below (g := gb267) (o := .cells #[.int .u64 t258, .int .u32 t259, .bool t260, .string t261, .int .i64 t262, .string t263, .int .i64 t264, .int .i64 t265, .string t266] 27 (0, 0)) (by (with_reducible repeat (first | refine blk_drewN ?_ _ | refine blk_drew ?_ | refine blk_alloc ?_ _)); exact BK267.out) hb)
                have n2_ := Aside0.mk (blk_below (g := gb279) (o := .cells #[.int .u64 t269, .int .u32 t270, .bool t271, .string t272, .int .i64 t273, .string t274, .int .i64 t275, .int .i64 t276, .string t277] 27 (0, 0)) (by (with_reducible repeat (first | refine blk_drewN ?_ _ | refine blk_drew ?_ | refine blk_alloc ?_ _)); exact BK279.out) hb)
                have n3_ := Aside0.mk (below_step (by repeat (first | (with_reducible first | exact HB.out | apply below_alloc | apply pw_below_drewN | apply below_drew1 | refine below_set ?_ GE257.out | refine below_set ?_ GE267.out | refine below_set ?_ GE279.out) | exact HB.out)) hb)
                clear BK257
                clear BK267
                clear BK279
                clear HB
                have BK257 := n0_
                have BK267 := n1_
                have BK279 := n2_
                have HB := n3_
                clear n0_ n1_ n2_ n3_
                (try clear hb)
                (try clear hb2)
                (try clear hk)
                (try clear hi)
                have hcz84_0 : w83.cell? ⟨gb279, 0, none⟩ = some (.int .u64 t269) := (blk_cell BK279.out 0).trans rfl
                have hcz84_1 : w83.cell? ⟨gb279, 1, none⟩ = some (.int .u32 t270) := (blk_cell BK279.out 1).trans rfl
                have hcz84_2 : w83.cell? ⟨gb279, 2, none⟩ = some (.bool t271) := (blk_cell BK279.out 2).trans rfl
                have hcz84_3 : w83.cell? ⟨gb279, 3, none⟩ = some (.string t272) := (blk_cell BK279.out 3).trans rfl
                have hcz84_4 : w83.cell? ⟨gb279, 4, none⟩ = some (.int .i64 t273) := (blk_cell BK279.out 4).trans rfl
                have hcz84_5 : w83.cell? ⟨gb279, 5, none⟩ = some (.string t274) := (blk_cell BK279.out 5).trans rfl
                have hcz84_6 : w83.cell? ⟨gb279, 6, none⟩ = some (.int .i64 t275) := (blk_cell BK279.out 6).trans rfl
                have hcz84_7 : w83.cell? ⟨gb279, 7, none⟩ = some (.int .i64 t276) := (blk_cell BK279.out 7).trans rfl
                have hcz84_8 : w83.cell? ⟨gb279, 8, none⟩ = some (.string t277) := (blk_cell BK279.out 8).trans rfl
                have hfz84_0 := blk_frozen BK279.out 0
                have hfz84_1 := blk_frozen BK279.out 1
                have hfz84_2 := blk_frozen BK279.out 2
                have hfz84_3 := blk_frozen BK279.out 3
                have hfz84_4 := blk_frozen BK279.out 4
                have hfz84_5 := blk_frozen BK279.out 5
                have hfz84_6 := blk_frozen BK279.out 6
                have hfz84_7 := blk_frozen BK279.out 7
                have hfz84_8 := blk_frozen BK279.out 8
                have hcz85_0 : w83.cell? ⟨gb267, 0, none⟩ = some (.int .u64 t258) := (blk_cell BK267.out 0).trans rfl
                have hcz85_1 : w83.cell? ⟨gb267, 1, none⟩ = some (.int .u32 t259) := (blk_cell BK267.out 1).trans rfl
                have hcz85_2 : w83.cell? ⟨gb267, 2, none⟩ = some (.bool t260) := (blk_cell BK267.out 2).trans rfl
                have hcz85_3 : w83.cell? ⟨gb267, 3, none⟩ = some (.string t261) := (blk_cell BK267.out 3).trans rfl
                have hcz85_4 : w83.cell? ⟨gb267, 4, none⟩ = some (.int .i64 t262) := (blk_cell BK267.out 4).trans rfl
                have hcz85_5 : w83.cell? ⟨gb267, 5, none⟩ = some (.string t263) := (blk_cell BK267.out 5).trans rfl
                have hcz85_6 : w83.cell? ⟨gb267, 6, none⟩ = some (.int .i64 t264) := (blk_cell BK267.out 6).trans rfl
                have hcz85_7 : w83.cell? ⟨gb267, 7, none⟩ = some (.int .i64 t265) := (blk_cell BK267.out 7).trans rfl
                have hcz85_8 : w83.cell? ⟨gb267, 8, none⟩ = some (.string t266) := (blk_cell BK267.out 8).trans rfl
                have hfz85_0 := blk_frozen BK267.out 0
                have hfz85_1 := blk_frozen BK267.out 1
                have hfz85_2 := blk_frozen BK267.out 2
                have hfz85_3 := blk_frozen BK267.out 3
                have hfz85_4 := blk_frozen BK267.out 4
                have hfz85_5 := blk_frozen BK267.out 5
                have hfz85_6 := blk_frozen BK267.out 6
                have hfz85_7 := blk_frozen BK267.out 7
                have hfz85_8 := blk_frozen BK267.out 8
                obtain ⟨c66s0, c66s1, c66s2, c66s3, ⟨c66s4, c66s5⟩, c66s6, c66s7, c66s8⟩ := C66_.out
                go_wp2
                go_ret
                exact ⟨by first | rfl | (simp [errW_none, errW_some] <;> rfl) | (simp [*, errW_none, errW_some] <;> rfl), by repeat (first | (with_reducible first | exact HB.out | apply below_alloc | apply pw_below_drewN | apply below_drew1 | refine below_set ?_ GE257.out | refine below_set ?_ GE267.out | refine below_set ?_ GE279.out) | exact HB.out)⟩
              · rw [if_neg c66] at H
                have c66b0 : (t269 == t258 && (t270 == t259 && (t271 == t260 && (t272.toList == t261.toList && ((t273 == t262 && (t274.toList == t263.toList)) && (t275 == t264 && (t276 == t265 && (t277.toList == t266.toList)))))))) = false := by simpa using c66
                (try (have c66b1 : decide (t269 = t258 && (t270 == t259 && (t271 == t260 && (t272.toList == t261.toList && ((t273 == t262 && (t274.toList == t263.toList)) && (t275 == t264 && (t276 == t265 && (t277.toList == t266.toList)))))))) = false := by simpa using c66))
                (try (have c66b2 : (t269 == t258 && (t270 == t259 && (t271 == t260 && (t272.toList == t261.toList && ((t273 == t262 && (t274.toList == t263.toList)) && (t275 == t264 && (t276 == t265 && (t277.toList == t266.toList)))))))) = false := by simpa using c66))
                (try (have c66b3 : ¬ (t269 = t258 && (t270 == t259 && (t271 == t260 && (t272.toList == t261.toList && ((t273 == t262 && (t274.toList == t263.toList)) && (t275 == t264 && (t276 == t265 && (t277.toList == t266.toList)))))))) := by simpa using c66))
                clear c66
                exact absurd (H.trans (congrArg some HR_.out)) (by simp)
            · rw [if_neg c65] at H
              have c65b0 : (t278 == 0) = false := beq_eq_false_iff_ne.mpr c65
              have c65b1 : (t278 != 0) = true := bne_iff_ne.mpr c65
              exact absurd (H.trans (congrArg some HR_.out)) (by simp)
    · rw [if_neg c9] at H
      have c9b0 : (t268.toList == t281.toList) = false := beq_eq_false_iff_ne.mpr c9
      have c9b1 : (t268.toList != t281.toList) = true := bne_iff_ne.mpr c9
      exact absurd (H.trans (congrArg some HR_.out)) (by simp)
  · replace c7 := Bool.eq_false_iff.mpr c7
    subst c7
    have H1 : (some false) = some r := by rw [if_neg (show ¬ (false = true) by decide)] at H; exact H
    clear H
    have H := H1
    clear H1
    exact absurd (H.trans (congrArg some HR_.out)) (by simp)

end Go.Proofs.Ytjmcokidiojanaa.PAnchorPuts
