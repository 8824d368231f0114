/- The row of the law RecordKeys, out of the contract of its own function: for every input that can be read, it returns true and leaves its arguments as they were. No further condition. -/
import Derived.Test.YtgghakjleihgaaaDoorRows
import Derived.Test.YtgghakjleihgaaaDoorCards
import Derived.Test.YtgghakjleihgaaaDoorTie
import Derived.Test.YtgghakjleihgaaaDoorOrG
import Derived.Test.YtgghakjleihgaaaDoorPureRecordKeys
import Derived.Test.YtgghakjleihgaaaDoorCards
import Derived.Test.YtgghakjleihgaaaDoorTie
import Derived.LaidMore
import Derived.LaidLaws
import Derived.LaidHandle
import Derived.MakeChecks
import Derived.Lib.LaidTab
import Derived.Stop.Joined
import Derived.SevenTiedAt
import Derived.Lay
import Derived.WalkKit
import Derived.ProofKit
import Derived.OpenShut
import Derived.ShutString
import Derived.ChangeOld
import Derived.Below
import Derived.SizedLaws
import Derived.Carry
import Derived.Lib.SmallJoins
import Derived.SliceStrings
namespace Go.Proofs.YtgghakjleihgaaaDoor.recordKeys
open Go.ChangeShapes Go.WideShapes Go.ChangeAt Go.RowKit
open Go.ChangeMaps (open_string shut_string)
theorem own : ownKnob Tryd.prog.godebug = none := by kernel_rfl
theorem okWide_array {P : Program} {w : World} {r : Reach} {base : Nat} {t e : TypeId} {n : Nat} {v : Value} (ht : P.underlying t = some (.array n e)) (h : Value.okWide P w r base t v) : ∃ cs, v = .agg cs ∧ cs.size = P.cellsOf t := by
  simp only [Value.okWide, ht] at h
  obtain ⟨cs, h1, h2, _⟩ := h   -- okWide_arrayM
  exact ⟨cs, h1, h2⟩
theorem laidOut : laidOutB Tryd.prog = true := by kernel_rfl
set_option linter.unusedSimpArgs false in
set_option linter.unusedVariables false in
theorem open1 {H : Type} {enc : TypeId × Value → H} {w : World} {base : Nat} {spare : Nat → Bool} {held : Bool} {r : Reach} {b0 : Nat} {v : Value} {d : DataW H} {ps : List MemPlace}
    (hv : Value.okWide Tryd.prog w r b0 36 v) (h : DataW.Trod enc Tryd.prog w base spare held 36 v d ps) :
    ∃ (a1_0 : Int) (a1_1 : Int) (a1_2 : Int), v = .agg #[.int .u64 a1_0, .int .u64 a1_1, .int .u64 a1_2] ∧ d = .agg [.lit (.int .u64 a1_0), .lit (.int .u64 a1_1), .lit (.int .u64 a1_2)] ∧ ps = [] ∧ (Lit.int .u64 a1_0).wf = true ∧ (Lit.int .u64 a1_1).wf = true ∧ (Lit.int .u64 a1_2).wf = true := by
  have hc36 : Tryd.prog.cellsOf 36 = 3 := by kernel_rfl
  have hc23 : Tryd.prog.cellsOf 23 = 1 := by kernel_rfl
  obtain ⟨cs, rfl, hsz⟩ := okWide_array Tryd.underlying36 hv
  rw [hc36] at hsz
  obtain ⟨l⟩ := cs
  obtain ⟨fuel, hy⟩ := h
  match l, hsz with
  | [c0, c1, c2], _ =>
  simp only [Value.cells] at hy
  obtain ⟨ys, m, _, hx, _, hl, hf⟩ := DataW.trod_array Tryd.underlying36 hy
  match ys, hl with
  | [y_0, y_1, y_2], _ =>
  have hy_0 := hf 0 (by omega)
  have hy_1 := hf 1 (by omega)
  have hy_2 := hf 2 (by omega)
  simp [hc23] at hy_0 hy_1 hy_2
  obtain ⟨a1_0, e1_0, hx_0, s1_0⟩ := DataW.trod_int Tryd.underlying23 hy_0
  obtain ⟨a1_1, e1_1, hx_1, s1_1⟩ := DataW.trod_int Tryd.underlying23 hy_1
  obtain ⟨a1_2, e1_2, hx_2, s1_2⟩ := DataW.trod_int Tryd.underlying23 hy_2
  simp at e1_0 e1_1 e1_2
  subst e1_0 e1_1 e1_2
  simp [hx_0, hx_1, hx_2] at hx
  obtain ⟨rfl, rfl⟩ := hx
  exact ⟨a1_0, a1_1, a1_2, rfl, by simp [hx_0, hx_1, hx_2], by simp [hx_0, hx_1, hx_2], s1_0, s1_1, s1_2⟩
set_option linter.unusedVariables false in
set_option maxRecDepth 100000 in
theorem lifted (os : Os) (started : os.Started) (H : Type) (enc : TypeId × Value → H) :
    ReturnsInHanded {} Tryd.checked os 4 .any (fun w args => (Rows.recordKeysSpec.pre enc Tryd.prog Tryd.f4 [] false w args ∧ laidMetH Tryd.prog [("unicode/utf8.acceptRanges", Rows.laid_unicode_utf8_acceptRanges), ("unicode/utf8.first", Rows.laid_unicode_utf8_first)] w) ∧ sizedMet enc Tryd.prog Tryd.f4 (OpenSpec.ofChange Rows.recordKeysSpec) false w args) (Rows.recordKeysSpec.post enc Tryd.prog Tryd.f4 false true false false) := by
  refine Sha.handed_and (C := Tryd.checked) (X := fun w _ => laidMetH Tryd.prog [("unicode/utf8.acceptRanges", Rows.laid_unicode_utf8_acceptRanges), ("unicode/utf8.first", Rows.laid_unicode_utf8_first)] w) (fun _ _ _ hh h => h.of_heap hh) own started (by kernel_rfl) Tryd.func4
    (ChangeSpec.witness_shaped (enc := enc) (C := Tryd.checked) (os := os) (X := fun w _ => laidMetH Tryd.prog [("unicode/utf8.acceptRanges", Rows.laid_unicode_utf8_acceptRanges), ("unicode/utf8.first", Rows.laid_unicode_utf8_first)] w) false (World.laidAll Tryd.prog os [("unicode/utf8.acceptRanges", Rows.laid_unicode_utf8_acceptRanges), ("unicode/utf8.first", Rows.laid_unicode_utf8_first)]) #[.bool false, .agg #[.int .u64 0, .int .u64 0, .int .u64 0], .int .i64 0] 8 (World.laidAll_os _ _ _) (World.shaped_of_ZipB (by kernel_rfl) (by kernel_rfl)) (by kernel_rfl) (by kernel_rfl) (by kernel_rfl) (by rw [MakeChecks.laidMetH_plain _ _ _ (by kernel_rfl)]; exact laidMet_laidAll _ (by kernel_rfl) (by kernel_rfl))) ?_
  intro W base args ds gs before hval0 hW hcnd hsz0 hL hsh_ _
  have hG_ := Sha.SL.of_shaped hsh_
  have hsz : (DataW.weightsEach Tryd.prog (Tryd.f4.params.toList ++ Rows.recordKeysSpec.plain.varTypes Tryd.prog) (ds ++ gs)).all (· ≤ reachBytes) = true := hsz0
  have hval : ∀ (j : Nat) t v, Tryd.f4.params[j]? = some t → args[j]? = some v → Value.okWide Tryd.prog W .any base t v := hval0
  have hW' := hW
  obtain ⟨p, q, hA0, hV, rfl, hfz, hnd⟩ := hW
  have hA : DataW.TrodAll enc Tryd.prog W 0 (fun _ => true) true Tryd.f4.params.toList args.toList ds p := hA0
  rw [Tryd.params4] at hA hval hsz
  obtain ⟨v0, vs0, d0, ds0, p0, q0, hargs, rfl, rfl, h0, r0⟩ := trodAll_cons hA
  obtain ⟨v1, vs1, d1, ds1, p1, q1, rfl, rfl, rfl, h1, r1⟩ := trodAll_cons r0
  obtain ⟨v2, vs2, d2, ds2, p2, q2, rfl, rfl, rfl, h2, r2⟩ := trodAll_cons r1
  obtain ⟨rfl, rfl, rfl⟩ := trodAll_nil r2
  obtain rfl : args = #[v0, v1, v2] := by cases args; simp_all
  obtain ⟨rfl, rfl⟩ := trodVars_none hV
  obtain ⟨a0, rfl, rfl, rfl⟩ := open_bool Tryd.underlying4 (hval 0 4 v0 rfl rfl) h0
  have k1 := h1
  have lt1 : ∀ x ∈ p1, x.block < W.heap.size := by obtain ⟨m, hm⟩ := k1; exact DataW.trod_lt m _ _ _ hm
  obtain ⟨a1_0, a1_1, a1_2, rfl, rfl, rfl, w1_0, w1_1, w1_2⟩ := open1 (hval 1 36 v1 rfl rfl) h1
  obtain ⟨a2, rfl, rfl, rfl, w2⟩ := open_int Tryd.underlying3 (hval 2 3 v2 rfl rfl) h2
  clear hA0 hval0 hsz0 hsz
  refine (PRecordKeys.lodestonelaw26_RecordKeys.calls 31 a0 a1_0 a1_1 a1_2 a2 true W (Pure.law a0 a1_0 a1_1 a1_2 a2 (Pure.u64_of w1_0) (Pure.u64_of w1_1) (Pure.u64_of w1_2)) rfl).mono fun e W' ⟨he, bel⟩ => ?_
  subst he
  exact ⟨_, rfl, _, _, _, [], _, [], hW', trodAll_mk1 (shut_bool Tryd.underlying4 _), (trodAll_cons_mk (shut_bool Tryd.underlying4 _) (trodAll_cons_mk (Below.trod laidOut (by kernel_rfl) (of_decide_eq_true (by kernel_rfl)) k1 bel lt1) (trodAll_cons_mk (shut_int Tryd.underlying3 w2) trodAll_mk0))), rfl, bel.frame _, fun h => by cases h⟩
theorem over : Rows.recordKeysRow.holds Tryd.pinned (OpenSpec.ofChange Rows.recordKeysSpec) :=
  OpenClaim.holds_of_wide 4 Tryd.f4 rfl rfl rfl rfl rfl rfl rfl ⟨rfl, rfl, rfl, rfl, rfl⟩ rfl rfl rfl rfl rfl (by kernel_rfl) Tryd.func4 (by kernel_rfl)
    (of_decide_eq_true (by kernel_rfl)) (by unfold Func.isWrapper; first | (rw [if_pos (by decide +kernel)]; kernel_rfl) | (rw [if_neg (by decide +kernel)]; exact ⟨rfl, rfl⟩))
    (fun os started H enc _ => lifted os started H enc)
theorem proved : Rows.RecordKeysSaid := over
theorem card_holds : Rows.RecordKeysCardSaid :=
  Claim7.holds_tied_plain_at .later [] [.data, .pinned] true (true, "54f71f16c097fd3a8c74c2fb349b541d0887230866acb2aa913792953fd4534f") false
    proved (fun _ h => by cases h) (by kernel_rfl) (fun _ h => by cases h) recordKeys_row_tie rfl ⟨rfl, rfl⟩ (by kernel_rfl) rfl
    (fun f fn hf hfn => by
      obtain rfl : f = 4 := Option.some.inj ((show Tryd.prog.funcNamed (Rows.recordKeysRow.func) = some 4 by kernel_rfl).symm.trans hf) |>.symm
      obtain rfl : fn = Tryd.f4 := (Option.some.inj (Tryd.func4.symm.trans hfn)).symm
      exact ⟨by kernel_rfl, fun j t ht => by
        have hall : (Tryd.f4.params.toList.all fun u => !Tryd.prog.wantsStandIn u) = true := by kernel_rfl
        have hm : t ∈ Tryd.f4.params.toList := Array.mem_toList_iff.2 (Array.mem_of_getElem? ht)
        exact (show Tryd.prog.wantsStandIn t = false by simpa using List.all_eq_true.1 hall t hm)⟩)
    (by kernel_rfl)
#print axioms card_holds
end Go.Proofs.YtgghakjleihgaaaDoor.recordKeys
namespace Go.Proofs.YtgghakjleihgaaaDoor
/-- The tied card, under a short name, for the claim. -/
theorem recordKeys_holds : Rows.RecordKeysCardSaid := recordKeys.card_holds
end Go.Proofs.YtgghakjleihgaaaDoor
