/- The row of the law DeltaClones, out of the contract of its own function: for every input that can be read, it returns true and leaves its arguments as they were. No further condition. -/
import Derived.Test.YtdkepbmpcbnkpaaRows
import Derived.Test.YtdkepbmpcbnkpaaDlRd
import Derived.WalkKit
import Derived.ProofKit
import Derived.OpenShut
import Derived.ShutString
import Derived.ChangeOld
import Derived.Below
import Derived.SizedLaws
import Derived.Carry
import Derived.Lib.SmallJoins
import Derived.SliceStrings
namespace Go.Proofs.Ytdkepbmpcbnkpaa.deltaClones
open Go.ChangeShapes Go.WideShapes Go.ChangeAt Go.RowKit
open Go.ChangeMaps (open_string shut_string)
theorem own : ownKnob Try.prog.godebug = none := by kernel_rfl
theorem weights_field {H : Type} {P : Program} {t u : TypeId} {fs : Array Field} (hu : P.underlying t = some (.struct fs)) {parts : List (DataW H)} {j : Nat} {d : DataW H} (ht : (fs.toList.map (·.type))[j]? = some u) (hd : parts[j]? = some d) :
    ∀ n ∈ d.weights P u, n ∈ (DataW.agg parts).weights P t := by
  intro n hn
  simp only [DataW.weights, hu]
  exact DataW.weights_mem_each ht hd n hn
theorem laidOut : laidOutB Try.prog = true := by kernel_rfl
set_option linter.unusedSimpArgs false in
set_option linter.unusedVariables false in
theorem open1 {H : Type} {enc : TypeId × Value → H} {w : World} {base : Nat} {spare : Nat → Bool} {held : Bool} {r : Reach} {b0 : Nat} {v : Value} {d : DataW H} {ps : List MemPlace}
    (hv : Value.okWide Try.prog w r b0 26 v) (h : DataW.Trod enc Try.prog w base spare held 26 v d ps) :
    ∃ (a1_0 : ByteArray) (a1_1 : ByteArray) (a1_2 : Bool), v = .agg #[.string a1_0, .string a1_1, .bool a1_2] ∧ d = .agg [.lit (.string a1_0.data.toList), .lit (.string a1_1.data.toList), .lit (.bool a1_2)] ∧ ps = [] ∧ a1_0.size ≤ maxLen ∧ a1_1.size ≤ maxLen := by
  have hc26 : Try.prog.cellsOf 26 = 3 := by kernel_rfl
  have hc9 : Try.prog.cellsOf 9 = 1 := by kernel_rfl
  have hc4 : Try.prog.cellsOf 4 = 1 := by kernel_rfl
  obtain ⟨cs, rfl, hsz⟩ := okWide_struct Try.underlying26 hv
  rw [hc26] at hsz
  obtain ⟨l⟩ := cs
  obtain ⟨fuel, hy⟩ := h
  match l, hsz with
  | [c0, c1, c2], _ =>
  simp only [Value.cells] at hy
  obtain ⟨ys, m, _, hx, _, hl, hf⟩ := DataW.trod_struct Try.underlying26 hy
  match ys, hl with
  | [y_0, y_1, y_2], _ =>
  have hy_0 := hf 0 _ rfl
  have hy_1 := hf 1 _ rfl
  have hy_2 := hf 2 _ rfl
  simp [hc4, hc9] at hy_0 hy_1 hy_2
  obtain ⟨a1_0, e1_0, hx_0, s1_0⟩ := DataW.trod_string Try.underlying9 hy_0
  obtain ⟨a1_1, e1_1, hx_1, s1_1⟩ := DataW.trod_string Try.underlying9 hy_1
  obtain ⟨a1_2, e1_2, hx_2⟩ := DataW.trod_bool Try.underlying4 hy_2
  simp at e1_0 e1_1 e1_2
  subst e1_0 e1_1 e1_2
  simp [hx_0, hx_1, hx_2] at hx
  obtain ⟨rfl, rfl⟩ := hx
  exact ⟨a1_0, a1_1, a1_2, rfl, by simp [hx_0, hx_1, hx_2], by simp [hx_0, hx_1, hx_2], s1_0, s1_1⟩
set_option linter.unusedVariables false in
set_option maxRecDepth 100000 in
theorem lifted (os : Os) (started : os.Started) (H : Type) (enc : TypeId × Value → H) :
    ReturnsInHanded {} Try.checked os 4 .any (Rows.deltaClonesSpec.pre6 enc Try.prog Try.f4 Rows.deltaClonesRow.domain false) (Rows.deltaClonesSpec.post enc Try.prog Try.f4 false true false false) := by
  refine returnsInHanded_of_change_sized (C := Try.checked) own started (by kernel_rfl) Try.func4
    (ChangeSpec.witness6 (enc := enc) (C := Try.checked) false ⟨#[], #[.slice none 0 0, .agg #[.string ByteArray.empty, .string ByteArray.empty, .bool false]], []⟩ 8 (by kernel_rfl) (by kernel_rfl) (by kernel_rfl) (by kernel_rfl)) ?_
  intro W base args ds gs before hval0 hW hcnd hsz0 _
  have hsz : (DataW.weightsEach Try.prog (Try.f4.params.toList ++ Rows.deltaClonesSpec.plain.varTypes Try.prog) (ds ++ gs)).all (· ≤ reachBytes) = true := hsz0
  have hval : ∀ (j : Nat) t v, Try.f4.params[j]? = some t → args[j]? = some v → Value.okWide Try.prog W .any base t v := hval0
  have hW' := hW
  obtain ⟨p, q, hA0, hV, rfl, hfz, hnd⟩ := hW
  have hA : DataW.TrodAll enc Try.prog W 0 (fun _ => true) true Try.f4.params.toList args.toList ds p := hA0
  rw [Try.params4] at hA hval hsz
  obtain ⟨v0, vs0, d0, ds0, p0, q0, hargs, rfl, rfl, h0, r0⟩ := trodAll_cons hA
  obtain ⟨v1, vs1, d1, ds1, p1, q1, rfl, rfl, rfl, h1, r1⟩ := trodAll_cons r0
  obtain ⟨rfl, rfl, rfl⟩ := trodAll_nil r1
  obtain rfl : args = #[v0, v1] := by cases args; simp_all
  obtain ⟨rfl, rfl⟩ := trodVars_none hV
  obtain ⟨b0, n0, z0, rfl⟩ := okWide_slice Try.underlying22 (hval 0 22 v0 rfl rfl)
  have k0 := h0
  have lt0 : ∀ x ∈ p0, x.block < W.heap.size := by obtain ⟨m, hm⟩ := k0; exact DataW.trod_lt m _ _ _ hm
  obtain ⟨xs0, rfl, c0, w0⟩ := PDeltaClones.rows_read22 h0
  have k1 := h1
  have lt1 : ∀ x ∈ p1, x.block < W.heap.size := by obtain ⟨m, hm⟩ := k1; exact DataW.trod_lt m _ _ _ hm
  obtain ⟨a1_0, a1_1, a1_2, rfl, rfl, rfl, w1_0, w1_1⟩ := open1 (hval 1 26 v1 rfl rfl) h1
  have z1_0 : a1_0.size ≤ 140737488351232 := by
    have z := List.all_eq_true.1 hsz _ (DataW.weights_mem_each (j := 1) (t := 26) rfl rfl _ (weights_field Try.underlying26 (j := 0) (u := 9) rfl rfl _ (by simp [DataW.weights] : a1_0.data.toList.length ∈ (DataW.lit (.string a1_0.data.toList) : DataW H).weights Try.prog 9)))
    rw [decide_eq_true_eq, Array.length_toList] at z
    exact z
  have z1_1 : a1_1.size ≤ 140737488351232 := by
    have z := List.all_eq_true.1 hsz _ (DataW.weights_mem_each (j := 1) (t := 26) rfl rfl _ (weights_field Try.underlying26 (j := 1) (u := 9) rfl rfl _ (by simp [DataW.weights] : a1_1.data.toList.length ∈ (DataW.lit (.string a1_1.data.toList) : DataW H).weights Try.prog 9)))
    rw [decide_eq_true_eq, Array.length_toList] at z
    exact z
  clear hA0 hval0 hsz0 hsz
  refine (Dl.clones_law _ _ xs0 ⟨a1_0, a1_1, a1_2⟩ W w0).mono fun e W' ⟨he, bel⟩ => ?_
  subst he
  exact ⟨_, rfl, _, _, _, [], _, [], hW', trodAll_mk1 (shut_bool Try.underlying4 _), (trodAll_cons_mk (Below.trod laidOut (by kernel_rfl) (of_decide_eq_true (by kernel_rfl)) k0 bel lt0) (trodAll_cons_mk (Below.trod laidOut (by kernel_rfl) (of_decide_eq_true (by kernel_rfl)) k1 bel lt1) trodAll_mk0)), rfl, bel.frame _, fun h => by cases h⟩
theorem over : Rows.deltaClonesRow.holds Try.pinned (OpenSpec.ofChange Rows.deltaClonesSpec) :=
  OpenClaim.holds_of_wide 4 Try.f4 rfl rfl rfl rfl rfl rfl rfl ⟨rfl, rfl, rfl, rfl, rfl⟩ rfl rfl rfl rfl rfl (by kernel_rfl) Try.func4 (by kernel_rfl)
    (of_decide_eq_true (by kernel_rfl)) (by unfold Func.isWrapper; first | (rw [if_pos (by decide +kernel)]; kernel_rfl) | (rw [if_neg (by decide +kernel)]; exact ⟨rfl, rfl⟩))
    (fun os started H enc _ => lifted os started H enc)
theorem proved : Rows.DeltaClonesSaid := over
end Go.Proofs.Ytdkepbmpcbnkpaa.deltaClones
namespace Go.Proofs.Ytdkepbmpcbnkpaa
/-- The row, under a short name, for the claim. -/
theorem deltaClones_holds : Rows.DeltaClonesSaid := deltaClones.proved
#print axioms deltaClones_holds
end Go.Proofs.Ytdkepbmpcbnkpaa
