/- The law ValueOf, walked: truths, numbers and texts are what they are made of. -/
import Derived.Test.YtbohjpmnlglldaaPValueOfx2
import Derived.Test.YtbohjpmnlglldaaXI
import Derived.Test.YtbohjpmnlglldaaXB
namespace Go.Proofs.Ytbohjpmnlglldaa.Vo
open Go.RowKit Go.Proofs.YtbohjpmnlglldaaW.PrintWords Go.Proofs.YtbohjpmnlglldaaW.PrintLast Go.Proofs.YtbohjpmnlglldaaW.PrintMore Go.Proofs.Ytbohjpmnlglldaa.XB Go.Proofs.Ytbohjpmnlglldaa.PValueOf
attribute [local go_sem] max2_int min2_int max_two min_two max_three min_three max_four min_four   -- for this text's walks alone
set_option linter.unusedVariables false
set_option linter.unusedSimpArgs false
abbrev em : ByteArray := ⟨#[]⟩
theorem awake_true : lodestonelaw23_awake.f 10 = some true := by decide +kernel
def nB (b : Bool) : Int := if b then 1 else 0
set_option maxHeartbeats 8000000 in
set_option maxRecDepth 100000 in
theorem law (b : Bool) (n : Int) (hn : (Lit.int .i64 n).wf = true) (s : ByteArray) (hs : s.size ≤ 140737488351232) (w : World) :
    Calls Try.prog 3 #[.bool b, .int .i64 n, .string s] w fun e w' => e = .returned (.bool true) ∧ Below w.heap.size w w' := by
  have hu23 := Try.underlying23
  obtain ⟨v, hv⟩ : ∃ v, nB b = v := ⟨_, rfl⟩
  have cb : ((v == 1) == b) = true := by subst hv; cases b <;> rfl
  have HV := Aside0.mk (show value_Bool.f b = some (1, v, em) by subst hv; cases b <;> rfl)
  have HM := Aside0.mk (show value_May.f 3 0 s = some (decide ((s.size : Int) ≤ 2000)) by rfl)
  have hW : value_Words.f 3 0 s = some (decide ((s.size : Int) ≤ 32)) := by
    unfold value_Words.f
    rw [HM.out, Option.bind_some]
    by_cases c : (s.size : Int) ≤ 2000
    · rw [if_pos (decide_eq_true c)]; rfl
    · rw [if_neg (by rw [decide_eq_true_eq]; exact c)]
      exact congrArg some (decide_eq_false (by omega)).symm
  have HW := Aside0.mk hW
  clear hv hW hn hs
  go_enter Try.func3, Try.ntmps3
  go_wp2_with (first | (go_at_call 5; fail))
  refine (value_Bool.calls b 1 v em _ HV.out).mono ?_
  rintro e w1 ⟨rfl, hb⟩
  have HB := Aside0.mk (below_alloc hb (.cells #[.int .i64 1, .int .i64 v, .string em] 23))
  clear hb
  go_wp2_with (first | (go_at_call 6; fail))
  refine (lodestonelaw23_awake.calls 10 true _ awake_true).mono ?_
  rintro e w2 ⟨rfl, hb⟩
  have BK := Aside0.mk (blk_below (blk_new _ _) hb)
  have HB2 := Aside0.mk (below_step HB.out hb)
  clear HB hb
  generalize w1.heap.size = gb at BK ⊢
  have h0 : w2.cell? ⟨gb, 0, none⟩ = some (.int .i64 1) := (blk_cell BK.out 0).trans rfl
  have h1 : w2.cell? ⟨gb, 1, none⟩ = some (.int .i64 v) := (blk_cell BK.out 1).trans rfl
  go_wp2_with (first | (go_at_call 7; fail))
  refine (value_Int.calls n 2 n em _ rfl).mono ?_
  rintro e w3 ⟨rfl, hb⟩
  have HB3 := Aside0.mk (below_step HB2.out hb)
  clear HB2 hb BK h0 h1
  go_wp2_with (first | (go_at_call 8; fail))
  refine (value_Text.calls s 3 0 s _ rfl).mono ?_
  rintro e w4 ⟨rfl, hb⟩
  have HB4 := Aside0.mk (below_step HB3.out hb)
  clear HB3 hb
  go_wp2_with (first | (go_at_call 8; fail))
  refine (value_Text.calls s 3 0 s _ rfl).mono ?_
  rintro e w5 ⟨rfl, hb⟩
  have HB5 := Aside0.mk (below_step HB4.out hb)
  clear HB4 hb
  go_wp2_with (first | (go_at_call 9; fail))
  refine (value_May.calls 3 0 s _ _ HM.out).mono ?_
  rintro e w6 ⟨rfl, hb⟩
  have HB6 := Aside0.mk (below_step HB5.out hb)
  clear HB5 hb
  go_wp2_with (first | (go_at_call 8; fail))
  refine (value_Text.calls s 3 0 s _ rfl).mono ?_
  rintro e w7 ⟨rfl, hb⟩
  have HB7 := Aside0.mk (below_step HB6.out hb)
  clear HB6 hb
  go_wp2_with (first | (go_at_call 10; fail))
  refine (value_Words.calls 3 0 s _ _ HW.out).mono ?_
  rintro e w8 ⟨rfl, hb⟩
  have HB8 := Aside0.mk (below_step HB7.out hb)
  clear HB7 hb
  go_wp2
  go_ret
  exact ⟨rfl, HB8.out⟩
end Go.Proofs.Ytbohjpmnlglldaa.Vo
