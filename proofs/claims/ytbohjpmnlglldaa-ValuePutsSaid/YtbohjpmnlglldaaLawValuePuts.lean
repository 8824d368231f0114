/- The row of the law ValuePuts, out of the contract of its own function: for every input that can be read, it returns true and leaves its arguments as they were. No further condition. -/
import Derived.Test.YtbohjpmnlglldaaRows
import Derived.Test.YtbohjpmnlglldaaPValuePutsx7
import Derived.Test.YtbohjpmnlglldaaPureValuePuts
import Derived.WalkKit
import Derived.ProofKit
import Derived.OpenShut
import Derived.ShutString
import Derived.ChangeOld
import Derived.Below
import Derived.SizedLaws
import Derived.Carry
import Derived.Lib.SmallJoins
import Derived.SliceStrings
namespace Go.Proofs.Ytbohjpmnlglldaa.valuePuts
open Go.ChangeShapes Go.WideShapes Go.ChangeAt Go.RowKit
open Go.ChangeMaps (open_string shut_string)
theorem own : ownKnob Try.prog.godebug = none := by kernel_rfl
theorem laidOut : laidOutB Try.prog = true := by kernel_rfl
set_option linter.unusedSimpArgs false in
set_option linter.unusedVariables false in
theorem open0 {H : Type} {enc : TypeId × Value → H} {w : World} {base : Nat} {spare : Nat → Bool} {held : Bool} {r : Reach} {b0 : Nat} {v : Value} {d : DataW H} {ps : List MemPlace}
    (hv : Value.okWide Try.prog w r b0 23 v) (h : DataW.Trod enc Try.prog w base spare held 23 v d ps) :
    ∃ (a0_0 : Int) (a0_1 : Int) (a0_2 : ByteArray), v = .agg #[.int .i64 a0_0, .int .i64 a0_1, .string a0_2] ∧ d = .agg [.lit (.int .i64 a0_0), .lit (.int .i64 a0_1), .lit (.string a0_2.data.toList)] ∧ ps = [] ∧ (Lit.int .i64 a0_0).wf = true ∧ (Lit.int .i64 a0_1).wf = true ∧ a0_2.size ≤ maxLen := by
  have hc23 : Try.prog.cellsOf 23 = 3 := by kernel_rfl
  have hc3 : Try.prog.cellsOf 3 = 1 := by kernel_rfl
  have hc2 : Try.prog.cellsOf 2 = 1 := by kernel_rfl
  have hc9 : Try.prog.cellsOf 9 = 1 := by kernel_rfl
  obtain ⟨cs, rfl, hsz⟩ := okWide_struct Try.underlying23 hv
  rw [hc23] at hsz
  obtain ⟨l⟩ := cs
  obtain ⟨fuel, hy⟩ := h
  match l, hsz with
  | [c0, c1, c2], _ =>
  simp only [Value.cells] at hy
  obtain ⟨ys, m, _, hx, _, hl, hf⟩ := DataW.trod_struct Try.underlying23 hy
  match ys, hl with
  | [y_0, y_1, y_2], _ =>
  have hy_0 := hf 0 _ rfl
  have hy_1 := hf 1 _ rfl
  have hy_2 := hf 2 _ rfl
  simp [hc2, hc3, hc9] at hy_0 hy_1 hy_2
  obtain ⟨a0_0, e0_0, hx_0, s0_0⟩ := DataW.trod_int Try.underlying3 hy_0
  obtain ⟨a0_1, e0_1, hx_1, s0_1⟩ := DataW.trod_int Try.underlying2 hy_1
  obtain ⟨a0_2, e0_2, hx_2, s0_2⟩ := DataW.trod_string Try.underlying9 hy_2
  simp at e0_0 e0_1 e0_2
  subst e0_0 e0_1 e0_2
  simp [hx_0, hx_1, hx_2] at hx
  obtain ⟨rfl, rfl⟩ := hx
  exact ⟨a0_0, a0_1, a0_2, rfl, by simp [hx_0, hx_1, hx_2], by simp [hx_0, hx_1, hx_2], s0_0, s0_1, s0_2⟩
set_option linter.unusedVariables false in
set_option maxRecDepth 100000 in
theorem lifted (os : Os) (started : os.Started) (H : Type) (enc : TypeId × Value → H) :
    ReturnsInHanded {} Try.checked os 4 .any (Rows.valuePutsSpec.pre6 enc Try.prog Try.f4 Rows.valuePutsRow.domain false) (Rows.valuePutsSpec.post enc Try.prog Try.f4 false true false false) := by
  refine returnsInHanded_of_change_sized (C := Try.checked) own started (by kernel_rfl) Try.func4
    (ChangeSpec.witness6 (enc := enc) (C := Try.checked) false ⟨#[], #[.agg #[.int .i64 0, .int .i64 0, .string ByteArray.empty], .int .i64 0], []⟩ 8 (by kernel_rfl) (by kernel_rfl) (by kernel_rfl) (by kernel_rfl)) ?_
  intro W base args ds gs before hval0 hW hcnd hsz0 _
  have hsz : (DataW.weightsEach Try.prog (Try.f4.params.toList ++ Rows.valuePutsSpec.plain.varTypes Try.prog) (ds ++ gs)).all (· ≤ reachBytes) = true := hsz0
  have hval : ∀ (j : Nat) t v, Try.f4.params[j]? = some t → args[j]? = some v → Value.okWide Try.prog W .any base t v := hval0
  have hW' := hW
  obtain ⟨p, q, hA0, hV, rfl, hfz, hnd⟩ := hW
  have hA : DataW.TrodAll enc Try.prog W 0 (fun _ => true) true Try.f4.params.toList args.toList ds p := hA0
  rw [Try.params4] at hA hval hsz
  obtain ⟨v0, vs0, d0, ds0, p0, q0, hargs, rfl, rfl, h0, r0⟩ := trodAll_cons hA
  obtain ⟨v1, vs1, d1, ds1, p1, q1, rfl, rfl, rfl, h1, r1⟩ := trodAll_cons r0
  obtain ⟨rfl, rfl, rfl⟩ := trodAll_nil r1
  obtain rfl : args = #[v0, v1] := by cases args; simp_all
  obtain ⟨rfl, rfl⟩ := trodVars_none hV
  have k0 := h0
  have lt0 : ∀ x ∈ p0, x.block < W.heap.size := by obtain ⟨m, hm⟩ := k0; exact DataW.trod_lt m _ _ _ hm
  obtain ⟨a0_0, a0_1, a0_2, rfl, rfl, rfl, w0_0, w0_1, w0_2⟩ := open0 (hval 0 23 v0 rfl rfl) h0
  obtain ⟨a1, rfl, rfl, rfl, w1⟩ := open_int Try.underlying3 (hval 1 3 v1 rfl rfl) h1
  clear hA0 hval0 hsz0 hsz
  refine (PValuePuts.lodestonelaw23_ValuePuts.calls 102 a0_0 a0_1 a0_2 a1 true W (Pure.law a0_0 a0_1 a0_2 a1 w0_1) rfl).mono fun e W' ⟨he, bel⟩ => ?_
  subst he
  exact ⟨_, rfl, _, _, _, [], _, [], hW', trodAll_mk1 (shut_bool Try.underlying4 _), (trodAll_cons_mk (Below.trod laidOut (by kernel_rfl) (of_decide_eq_true (by kernel_rfl)) k0 bel lt0) (trodAll_cons_mk (shut_int Try.underlying3 w1) trodAll_mk0)), rfl, bel.frame _, fun h => by cases h⟩
theorem over : Rows.valuePutsRow.holds Try.pinned (OpenSpec.ofChange Rows.valuePutsSpec) :=
  OpenClaim.holds_of_wide 4 Try.f4 rfl rfl rfl rfl rfl rfl rfl ⟨rfl, rfl, rfl, rfl, rfl⟩ rfl rfl rfl rfl rfl (by kernel_rfl) Try.func4 (by kernel_rfl)
    (of_decide_eq_true (by kernel_rfl)) (by unfold Func.isWrapper; first | (rw [if_pos (by decide +kernel)]; kernel_rfl) | (rw [if_neg (by decide +kernel)]; exact ⟨rfl, rfl⟩))
    (fun os started H enc _ => lifted os started H enc)
theorem proved : Rows.ValuePutsSaid := over
end Go.Proofs.Ytbohjpmnlglldaa.valuePuts
namespace Go.Proofs.Ytbohjpmnlglldaa
/-- The row, under a short name, for the claim. -/
theorem valuePuts_holds : Rows.ValuePutsSaid := valuePuts.proved
#print axioms valuePuts_holds
end Go.Proofs.Ytbohjpmnlglldaa
