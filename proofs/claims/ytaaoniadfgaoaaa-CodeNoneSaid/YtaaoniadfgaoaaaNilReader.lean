/- No reader reads nothing: each method on a nil reader, and the law's own walk; for every input. -/
import Derived.Test.YtaaoniadfgaoaaaPCodeNonex2
namespace Go.Proofs.Ytaaoniadfgaoaaa.PCodeNone
open Go.RowKit Go.Proofs.YtaaoniadfgaoaaaW.PrintWords Go.Proofs.YtaaoniadfgaoaaaW.PrintLast Go.Proofs.YtaaoniadfgaoaaaW.PrintMore
set_option linter.unusedVariables false
set_option linter.unusedSimpArgs false
theorem nil_Err (w : World) : Calls Try.prog 17 #[.pointer none] w fun e w' => e = .returned (.int .i64 2) ∧ Below w.heap.size w w' := by
  go_enter Try.func17, Try.ntmps17
  go_wp2
  go_ret
  exact ⟨rfl, Below.refl _ _⟩
theorem nil_Left (w : World) : Calls Try.prog 18 #[.pointer none] w fun e w' => e = .returned (.int .i64 0) ∧ Below w.heap.size w w' := by
  go_enter Try.func18, Try.ntmps18
  go_wp2
  go_ret
  exact ⟨rfl, Below.refl _ _⟩
theorem nil_Fail (n : Int) (w : World) : Calls Try.prog 16 #[.pointer none, .int .i64 n] w fun e w' => e = .returned (.tuple #[]) ∧ Below w.heap.size w w' := by
  go_enter Try.func16, Try.ntmps16
  go_wp2_with (go_at_call 17; (with_reducible refine (nil_Err _).mono ?_); rintro e w1 ⟨rfl, hb⟩; have H1 := Aside0.mk hb; clear hb)
  first | go_end0 | ((try simp only [Exit.inBlock, Exit.then]); refine bodyPost_ret (results_none rfl _ _ _) rfl ?_)
  exact ⟨rfl, H1.out⟩
theorem nil_Bytes (n : Int) (w : World) : Calls Try.prog 19 #[.pointer none, .int .i64 n] w fun e w' => e = .returned (.string ⟨#[]⟩) ∧ Below w.heap.size w w' := by
  by_cases c1 : n < 0
  · have c1b : decide (n < 0) = true := decide_eq_true c1
    go_enter Try.func19, Try.ntmps19
    go_wp2_with (go_at_call 16; (with_reducible refine (nil_Fail _ _).mono ?_); rintro e w1 ⟨rfl, hb⟩; have H1 := Aside0.mk hb; clear hb)
    go_ret
    exact ⟨rfl, H1.out⟩
  · have c1b : decide (n < 0) = false := decide_eq_false c1
    by_cases c2 : 0 < n
    · have c2b : decide (0 < n) = true := decide_eq_true c2
      go_enter Try.func19, Try.ntmps19
      go_wp2_with (first | (go_at_call 18; (with_reducible refine (nil_Left _).mono ?_); rintro e w1 ⟨rfl, hb⟩; have H1 := Aside0.mk hb; clear hb) | (go_at_call 16; (with_reducible refine (nil_Fail _ _).mono ?_); rintro e w2 ⟨rfl, hb⟩; have H2 := Aside0.mk (H1.out.trans (hb.mono H1.out.size)); clear hb))
      go_ret
      exact ⟨rfl, H2.out⟩
    · obtain rfl : n = 0 := by omega
      go_enter Try.func19, Try.ntmps19
      go_wp2_with (go_at_call 18; (with_reducible refine (nil_Left _).mono ?_); rintro e w1 ⟨rfl, hb⟩; have H1 := Aside0.mk hb; clear hb)
      go_ret
      exact ⟨rfl, H1.out⟩
theorem nil_high (n : Int) (w : World) : Calls Try.prog 27 #[.pointer none, .int .i64 n] w fun e w' => e = .returned (.int .u64 0) ∧ Below w.heap.size w w' := by
  have kc := fun (W : World) => print_bytes (P := Try.prog) 9 42 5 Try.underlying9 Try.underlying42 Try.underlying5 ⟨#[]⟩ W
  go_enter Try.func27, Try.ntmps27
  go_wp2_with (go_at_call 19; (with_reducible refine (nil_Bytes _ _).mono ?_); rintro e w1 ⟨rfl, hb⟩; have H1 := Aside0.mk hb; clear hb)
  have K2 := Aside0.mk (bytes_below (Below.refl w1.heap.size w1) (Nat.le_refl _) 5 ⟨#[]⟩)
  clear kc
  generalize Lib.bytesWorld w1 5 ⟨#[]⟩ = w2 at K2 ⊢
  go_loop [5, 13] (fun n i => n = .int .u64 0 ∧ i = .int .i64 0) (fun _ _ => 0)
  case atStart => exact ⟨rfl, rfl⟩
  case round =>
    obtain ⟨rfl, rfl⟩ := hrel
    go_wp2
    go_ret
    exact ⟨rfl, H1.out.trans (K2.out.mono H1.out.size)⟩
theorem nil_Big (w : World) : Calls Try.prog 20 #[.pointer none] w fun e w' => e = .returned (.int .u64 0) ∧ Below w.heap.size w w' := by
  go_enter Try.func20, Try.ntmps20
  go_wp2_with (go_at_call 27; (with_reducible refine (nil_high _ _).mono ?_); rintro e w1 ⟨rfl, hb⟩; have H1 := Aside0.mk hb; clear hb)
  go_ret
  exact ⟨rfl, H1.out⟩
theorem nil_Small (w : World) : Calls Try.prog 21 #[.pointer none] w fun e w' => e = .returned (.int .u32 0) ∧ Below w.heap.size w w' := by
  go_enter Try.func21, Try.ntmps21
  go_wp2_with (go_at_call 27; (with_reducible refine (nil_high _ _).mono ?_); rintro e w1 ⟨rfl, hb⟩; have H1 := Aside0.mk hb; clear hb)
  go_ret
  exact ⟨rfl, H1.out⟩
theorem nil_End (w : World) : Calls Try.prog 25 #[.pointer none] w fun e w' => e = .returned (.int .i64 2) ∧ Below w.heap.size w w' := by
  go_enter Try.func25, Try.ntmps25
  go_wp2_with (first | (go_at_call 18; (with_reducible refine (nil_Left _).mono ?_); rintro e w1 ⟨rfl, hb⟩; have H1 := Aside0.mk hb; clear hb) | (go_at_call 17; (with_reducible refine (nil_Err _).mono ?_); rintro e w2 ⟨rfl, hb⟩; have H2 := Aside0.mk (H1.out.trans (hb.mono H1.out.size)); clear hb))
  go_ret
  exact ⟨rfl, H2.out⟩
theorem nil_Num (n : Int) (w : World) : Calls Try.prog 22 #[.pointer none, .int .u64 n] w fun e w' => e = .returned (.int .u64 0) ∧ Below w.heap.size w w' := by
  go_enter Try.func22, Try.ntmps22
  go_wp2
  refine wp_loop_rounds 1 ?_
  rw [rounds_succ]
  go_wp2_with (go_at_call 19; (with_reducible refine (nil_Bytes _ _).mono ?_); rintro e w1 ⟨rfl, hb⟩; have H1 := Aside0.mk hb; clear hb)
  go_ret
  exact ⟨rfl, H1.out⟩
theorem nil_Text (n : Int) (w : World) : Calls Try.prog 23 #[.pointer none, .int .i64 n] w fun e w' => e = .returned (.string ⟨#[]⟩) ∧ Below w.heap.size w w' := by
  go_enter Try.func23, Try.ntmps23
  go_wp2_with (first | (go_at_call 22; (with_reducible refine (nil_Num _ _).mono ?_); rintro e w1 ⟨rfl, hb⟩; have H1 := Aside0.mk hb; clear hb) | (go_at_call 19; (with_reducible refine (nil_Bytes _ _).mono ?_); rintro e w2 ⟨rfl, hb⟩; have H2 := Aside0.mk (H1.out.trans (hb.mono H1.out.size)); clear hb))
  all_goals go_ret
  all_goals exact ⟨rfl, H2.out⟩
theorem nil_Bool (w : World) : Calls Try.prog 24 #[.pointer none] w fun e w' => e = .returned (.bool false) ∧ Below w.heap.size w w' := by
  go_enter Try.func24, Try.ntmps24
  go_wp2_with (go_at_call 22; (with_reducible refine (nil_Num _ _).mono ?_); rintro e w1 ⟨rfl, hb⟩; have H1 := Aside0.mk hb; clear hb)
  go_ret
  exact ⟨rfl, H1.out⟩
theorem awake_true : lodestonelaw04_awake.f 20 = some true := by decide +kernel
theorem law_calls (a0 a1 : Int) (w : World) : Calls Try.prog 4 #[.int .i64 a0, .int .u64 a1] w fun e w' => e = .returned (.bool true) ∧ Below w.heap.size w w' := by
  have HB := Aside0.mk (Below.refl w.heap.size w)
  go_enter Try.func4, Try.ntmps4
  go_wp2_with (first
    | (go_at_call 16; (with_reducible refine (nil_Fail _ _).mono ?_); rintro e w1 ⟨rfl, hb⟩; have n0 := Aside0.mk (below_step HB.out hb); clear HB hb; have HB := n0; clear n0)
    | (go_at_call 6; (with_reducible refine (lodestonelaw04_awake.calls 20 true _ awake_true).mono ?_); rintro e w2 ⟨rfl, hb⟩; have n0 := Aside0.mk (below_step HB.out hb); clear HB hb; have HB := n0; clear n0)
    | (go_at_call 17; (with_reducible refine (nil_Err _).mono ?_); rintro e w3 ⟨rfl, hb⟩; have n0 := Aside0.mk (below_step HB.out hb); clear HB hb; have HB := n0; clear n0)
    | (go_at_call 18; (with_reducible refine (nil_Left _).mono ?_); rintro e w4 ⟨rfl, hb⟩; have n0 := Aside0.mk (below_step HB.out hb); clear HB hb; have HB := n0; clear n0)
    | (go_at_call 19; (with_reducible refine (nil_Bytes _ _).mono ?_); rintro e w5 ⟨rfl, hb⟩; have n0 := Aside0.mk (below_step HB.out hb); clear HB hb; have HB := n0; clear n0)
    | (go_at_call 20; (with_reducible refine (nil_Big _).mono ?_); rintro e w6 ⟨rfl, hb⟩; have n0 := Aside0.mk (below_step HB.out hb); clear HB hb; have HB := n0; clear n0)
    | (go_at_call 21; (with_reducible refine (nil_Small _).mono ?_); rintro e w7 ⟨rfl, hb⟩; have n0 := Aside0.mk (below_step HB.out hb); clear HB hb; have HB := n0; clear n0)
    | (go_at_call 22; (with_reducible refine (nil_Num _ _).mono ?_); rintro e w8 ⟨rfl, hb⟩; have n0 := Aside0.mk (below_step HB.out hb); clear HB hb; have HB := n0; clear n0)
    | (go_at_call 23; (with_reducible refine (nil_Text _ _).mono ?_); rintro e w9 ⟨rfl, hb⟩; have n0 := Aside0.mk (below_step HB.out hb); clear HB hb; have HB := n0; clear n0)
    | (go_at_call 24; (with_reducible refine (nil_Bool _).mono ?_); rintro e w10 ⟨rfl, hb⟩; have n0 := Aside0.mk (below_step HB.out hb); clear HB hb; have HB := n0; clear n0)
    | (go_at_call 25; (with_reducible refine (nil_End _).mono ?_); rintro e w11 ⟨rfl, hb⟩; have n0 := Aside0.mk (below_step HB.out hb); clear HB hb; have HB := n0; clear n0))
  go_ret
  exact ⟨rfl, HB.out⟩
end Go.Proofs.Ytaaoniadfgaoaaa.PCodeNone
