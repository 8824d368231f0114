/- The row of the law AnchorPuts, out of the contract of its own function: for every input that can be read, it returns true and leaves its arguments as they were. No further condition. -/
import Derived.Test.YtjmcokidiojanaaRows
import Derived.Test.YtjmcokidiojanaaPAnchorPutsx9
import Derived.Test.YtjmcokidiojanaaPureAnchorPuts
import Derived.WalkKit
import Derived.ProofKit
import Derived.OpenShut
import Derived.ShutString
import Derived.ChangeOld
import Derived.Below
import Derived.SizedLaws
import Derived.Carry
import Derived.Lib.SmallJoins
import Derived.SliceStrings
namespace Go.Proofs.Ytjmcokidiojanaa.anchorPuts
open Go.ChangeShapes Go.WideShapes Go.ChangeAt Go.RowKit
open Go.ChangeMaps (open_string shut_string)
theorem own : ownKnob Try.prog.godebug = none := by kernel_rfl
theorem weights_field {H : Type} {P : Program} {t u : TypeId} {fs : Array Field} (hu : P.underlying t = some (.struct fs)) {parts : List (DataW H)} {j : Nat} {d : DataW H} (ht : (fs.toList.map (·.type))[j]? = some u) (hd : parts[j]? = some d) :
    ∀ n ∈ d.weights P u, n ∈ (DataW.agg parts).weights P t := by
  intro n hn
  simp only [DataW.weights, hu]
  exact DataW.weights_mem_each ht hd n hn
theorem laidOut : laidOutB Try.prog = true := by kernel_rfl
set_option linter.unusedSimpArgs false in
set_option linter.unusedVariables false in
theorem open0 {H : Type} {enc : TypeId × Value → H} {w : World} {base : Nat} {spare : Nat → Bool} {held : Bool} {r : Reach} {b0 : Nat} {v : Value} {d : DataW H} {ps : List MemPlace}
    (hv : Value.okWide Try.prog w r b0 27 v) (h : DataW.Trod enc Try.prog w base spare held 27 v d ps) :
    ∃ (a0_0 : Int) (a0_1 : Int) (a0_2 : Bool) (a0_3 : ByteArray) (a0_4_0 : Int) (a0_4_1 : ByteArray) (a0_5 : Int) (a0_6 : Int) (a0_7 : ByteArray), v = .agg #[.int .u64 a0_0, .int .u32 a0_1, .bool a0_2, .string a0_3, .int .i64 a0_4_0, .string a0_4_1, .int .i64 a0_5, .int .i64 a0_6, .string a0_7] ∧ d = .agg [.lit (.int .u64 a0_0), .lit (.int .u32 a0_1), .lit (.bool a0_2), .lit (.string a0_3.data.toList), .agg [.lit (.int .i64 a0_4_0), .lit (.string a0_4_1.data.toList)], .lit (.int .i64 a0_5), .lit (.int .i64 a0_6), .lit (.string a0_7.data.toList)] ∧ ps = [] ∧ (Lit.int .u64 a0_0).wf = true ∧ (Lit.int .u32 a0_1).wf = true ∧ a0_3.size ≤ maxLen ∧ (Lit.int .i64 a0_4_0).wf = true ∧ a0_4_1.size ≤ maxLen ∧ (Lit.int .i64 a0_5).wf = true ∧ (Lit.int .i64 a0_6).wf = true ∧ a0_7.size ≤ maxLen := by
  have hc27 : Try.prog.cellsOf 27 = 9 := by kernel_rfl
  have hc22 : Try.prog.cellsOf 22 = 1 := by kernel_rfl
  have hc23 : Try.prog.cellsOf 23 = 1 := by kernel_rfl
  have hc4 : Try.prog.cellsOf 4 = 1 := by kernel_rfl
  have hc9 : Try.prog.cellsOf 9 = 1 := by kernel_rfl
  have hc25 : Try.prog.cellsOf 25 = 2 := by kernel_rfl
  have hc3 : Try.prog.cellsOf 3 = 1 := by kernel_rfl
  obtain ⟨cs, rfl, hsz⟩ := okWide_struct Try.underlying27 hv
  rw [hc27] at hsz
  obtain ⟨l⟩ := cs
  obtain ⟨fuel, hy⟩ := h
  match l, hsz with
  | [c0, c1, c2, c3, c4, c5, c6, c7, c8], _ =>
  simp only [Value.cells] at hy
  obtain ⟨ys, m, _, hx, _, hl, hf⟩ := DataW.trod_struct Try.underlying27 hy
  match ys, hl with
  | [y_0, y_1, y_2, y_3, y_4, y_5, y_6, y_7], _ =>
  have hy_0 := hf 0 _ rfl
  have hy_1 := hf 1 _ rfl
  have hy_2 := hf 2 _ rfl
  have hy_3 := hf 3 _ rfl
  have hy_4 := hf 4 _ rfl
  have hy_5 := hf 5 _ rfl
  have hy_6 := hf 6 _ rfl
  have hy_7 := hf 7 _ rfl
  simp [hc22, hc23, hc25, hc3, hc4, hc9] at hy_0 hy_1 hy_2 hy_3 hy_4 hy_5 hy_6 hy_7
  obtain ⟨a0_0, e0_0, hx_0, s0_0⟩ := DataW.trod_int Try.underlying22 hy_0
  obtain ⟨a0_1, e0_1, hx_1, s0_1⟩ := DataW.trod_int Try.underlying23 hy_1
  obtain ⟨a0_2, e0_2, hx_2⟩ := DataW.trod_bool Try.underlying4 hy_2
  obtain ⟨a0_3, e0_3, hx_3, s0_3⟩ := DataW.trod_string Try.underlying9 hy_3
  obtain ⟨ys_4, m_4, _, hx_4, _, hl_4, hf_4⟩ := DataW.trod_struct Try.underlying25 hy_4
  match ys_4, hl_4 with
  | [y_4_0, y_4_1], _ =>
  have hy_4_0 := hf_4 0 _ rfl
  have hy_4_1 := hf_4 1 _ rfl
  simp [hc3, hc9] at hy_4_0 hy_4_1
  obtain ⟨a0_4_0, e0_4_0, hx_4_0, s0_4_0⟩ := DataW.trod_int Try.underlying3 hy_4_0
  obtain ⟨a0_4_1, e0_4_1, hx_4_1, s0_4_1⟩ := DataW.trod_string Try.underlying9 hy_4_1
  obtain ⟨a0_5, e0_5, hx_5, s0_5⟩ := DataW.trod_int Try.underlying3 hy_5
  obtain ⟨a0_6, e0_6, hx_6, s0_6⟩ := DataW.trod_int Try.underlying3 hy_6
  obtain ⟨a0_7, e0_7, hx_7, s0_7⟩ := DataW.trod_string Try.underlying9 hy_7
  simp at e0_0 e0_1 e0_2 e0_3 e0_4_0 e0_4_1 e0_5 e0_6 e0_7
  subst e0_0 e0_1 e0_2 e0_3 e0_4_0 e0_4_1 e0_5 e0_6 e0_7
  simp [hx_0, hx_1, hx_2, hx_3, hx_4_0, hx_4_1, hx_4, hx_5, hx_6, hx_7] at hx
  obtain ⟨rfl, rfl⟩ := hx
  exact ⟨a0_0, a0_1, a0_2, a0_3, a0_4_0, a0_4_1, a0_5, a0_6, a0_7, rfl, by simp [hx_0, hx_1, hx_2, hx_3, hx_4_0, hx_4_1, hx_4, hx_5, hx_6, hx_7], by simp [hx_0, hx_1, hx_2, hx_3, hx_4_0, hx_4_1, hx_4, hx_5, hx_6, hx_7], s0_0, s0_1, s0_3, s0_4_0, s0_4_1, s0_5, s0_6, s0_7⟩
set_option linter.unusedVariables false in
set_option maxRecDepth 100000 in
theorem lifted (os : Os) (started : os.Started) (H : Type) (enc : TypeId × Value → H) :
    ReturnsInHanded {} Try.checked os 3 .any (Rows.anchorPutsSpec.pre6 enc Try.prog Try.f3 Rows.anchorPutsRow.domain false) (Rows.anchorPutsSpec.post enc Try.prog Try.f3 false true false false) := by
  refine returnsInHanded_of_change_sized (C := Try.checked) own started (by kernel_rfl) Try.func3
    (ChangeSpec.witness6 (enc := enc) (C := Try.checked) false ⟨#[], #[.agg #[.int .u64 0, .int .u32 0, .bool false, .string ByteArray.empty, .int .i64 0, .string ByteArray.empty, .int .i64 0, .int .i64 0, .string ByteArray.empty], .int .i64 0], []⟩ 8 (by kernel_rfl) (by kernel_rfl) (by kernel_rfl) (by kernel_rfl)) ?_
  intro W base args ds gs before hval0 hW hcnd hsz0 _
  have hsz : (DataW.weightsEach Try.prog (Try.f3.params.toList ++ Rows.anchorPutsSpec.plain.varTypes Try.prog) (ds ++ gs)).all (· ≤ reachBytes) = true := hsz0
  have hval : ∀ (j : Nat) t v, Try.f3.params[j]? = some t → args[j]? = some v → Value.okWide Try.prog W .any base t v := hval0
  have hW' := hW
  obtain ⟨p, q, hA0, hV, rfl, hfz, hnd⟩ := hW
  have hA : DataW.TrodAll enc Try.prog W 0 (fun _ => true) true Try.f3.params.toList args.toList ds p := hA0
  rw [Try.params3] at hA hval hsz
  obtain ⟨v0, vs0, d0, ds0, p0, q0, hargs, rfl, rfl, h0, r0⟩ := trodAll_cons hA
  obtain ⟨v1, vs1, d1, ds1, p1, q1, rfl, rfl, rfl, h1, r1⟩ := trodAll_cons r0
  obtain ⟨rfl, rfl, rfl⟩ := trodAll_nil r1
  obtain rfl : args = #[v0, v1] := by cases args; simp_all
  obtain ⟨rfl, rfl⟩ := trodVars_none hV
  have k0 := h0
  have lt0 : ∀ x ∈ p0, x.block < W.heap.size := by obtain ⟨m, hm⟩ := k0; exact DataW.trod_lt m _ _ _ hm
  obtain ⟨a0_0, a0_1, a0_2, a0_3, a0_4_0, a0_4_1, a0_5, a0_6, a0_7, rfl, rfl, rfl, w0_0, w0_1, w0_3, w0_4_0, w0_4_1, w0_5, w0_6, w0_7⟩ := open0 (hval 0 27 v0 rfl rfl) h0
  have z0_3 : a0_3.size ≤ 140737488351232 := by
    have z := List.all_eq_true.1 hsz _ (DataW.weights_mem_each (j := 0) (t := 27) rfl rfl _ (weights_field Try.underlying27 (j := 3) (u := 9) rfl rfl _ (by simp [DataW.weights] : a0_3.data.toList.length ∈ (DataW.lit (.string a0_3.data.toList) : DataW H).weights Try.prog 9)))
    rw [decide_eq_true_eq, Array.length_toList] at z
    exact z
  have z0_4_1 : a0_4_1.size ≤ 140737488351232 := by
    have z := List.all_eq_true.1 hsz _ (DataW.weights_mem_each (j := 0) (t := 27) rfl rfl _ (weights_field Try.underlying27 (j := 4) (u := 25) rfl rfl _ (weights_field Try.underlying25 (j := 1) (u := 9) rfl rfl _ (by simp [DataW.weights] : a0_4_1.data.toList.length ∈ (DataW.lit (.string a0_4_1.data.toList) : DataW H).weights Try.prog 9))))
    rw [decide_eq_true_eq, Array.length_toList] at z
    exact z
  have z0_7 : a0_7.size ≤ 140737488351232 := by
    have z := List.all_eq_true.1 hsz _ (DataW.weights_mem_each (j := 0) (t := 27) rfl rfl _ (weights_field Try.underlying27 (j := 7) (u := 9) rfl rfl _ (by simp [DataW.weights] : a0_7.data.toList.length ∈ (DataW.lit (.string a0_7.data.toList) : DataW H).weights Try.prog 9)))
    rw [decide_eq_true_eq, Array.length_toList] at z
    exact z
  obtain ⟨a1, rfl, rfl, rfl, w1⟩ := open_int Try.underlying3 (hval 1 3 v1 rfl rfl) h1
  clear hA0 hval0 hsz0 hsz
  refine (PAnchorPuts.lodestonelaw12_AnchorPuts.calls 62 a0_0 a0_1 a0_2 a0_3 a0_4_0 a0_4_1 a0_5 a0_6 a0_7 a1 true W (Pure.law a0_0 a0_1 a0_2 a0_3 a0_4_0 a0_4_1 a0_5 a0_6 a0_7 a1 w0_0 w0_1 z0_3 z0_4_1 z0_7) rfl).mono fun e W' ⟨he, bel⟩ => ?_
  subst he
  exact ⟨_, rfl, _, _, _, [], _, [], hW', trodAll_mk1 (shut_bool Try.underlying4 _), (trodAll_cons_mk (Below.trod laidOut (by kernel_rfl) (of_decide_eq_true (by kernel_rfl)) k0 bel lt0) (trodAll_cons_mk (shut_int Try.underlying3 w1) trodAll_mk0)), rfl, bel.frame _, fun h => by cases h⟩
theorem over : Rows.anchorPutsRow.holds Try.pinned (OpenSpec.ofChange Rows.anchorPutsSpec) :=
  OpenClaim.holds_of_wide 3 Try.f3 rfl rfl rfl rfl rfl rfl rfl ⟨rfl, rfl, rfl, rfl, rfl⟩ rfl rfl rfl rfl rfl (by kernel_rfl) Try.func3 (by kernel_rfl)
    (of_decide_eq_true (by kernel_rfl)) (by unfold Func.isWrapper; first | (rw [if_pos (by decide +kernel)]; kernel_rfl) | (rw [if_neg (by decide +kernel)]; exact ⟨rfl, rfl⟩))
    (fun os started H enc _ => lifted os started H enc)
theorem proved : Rows.AnchorPutsSaid := over
end Go.Proofs.Ytjmcokidiojanaa.anchorPuts
namespace Go.Proofs.Ytjmcokidiojanaa
/-- The row, under a short name, for the claim. -/
theorem anchorPuts_holds : Rows.AnchorPutsSaid := anchorPuts.proved
#print axioms anchorPuts_holds
end Go.Proofs.Ytjmcokidiojanaa
