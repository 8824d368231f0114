import Derived.Test.YtgbhjkkfleeodaaDoorRows
import Derived.Test.YtgbhjkkfleeodaaDoorCards
import Derived.Test.YtgbhjkkfleeodaaDoorTie
import Derived.Test.YtgbhjkkfleeodaaDoorPureBlockPlaces
import Derived.Test.YtgbhjkkfleeodaaDoorCards
import Derived.Test.YtgbhjkkfleeodaaDoorTie
import Derived.LaidMore
import Derived.LaidLaws
import Derived.LaidHandle
import Derived.MakeChecks
import Derived.Lib.LaidTab
import Derived.Stop.Joined
import Derived.SevenTiedAt
import Derived.Lay
import Derived.WalkKit
import Derived.ProofKit
import Derived.OpenShut
import Derived.ShutString
import Derived.ChangeOld
import Derived.Below
import Derived.SizedLaws
import Derived.Carry
import Derived.Lib.SmallJoins
import Derived.SliceStrings
namespace Go.Proofs.YtgbhjkkfleeodaaDoor.blockPlaces
open Go.ChangeShapes Go.WideShapes Go.ChangeAt Go.RowKit
open Go.ChangeMaps (open_string shut_string)
theorem met {W : World} (h : laidMetH Tryd.prog [("lodestone/sha.salts", Rows.laid_lodestone_sha_salts), ("unicode/utf8.acceptRanges", Rows.laid_unicode_utf8_acceptRanges), ("unicode/utf8.first", Rows.laid_unicode_utf8_first)] W) : Sha.SL W := by
  rw [MakeChecks.laidMetH_plain _ _ _ (by kernel_rfl)] at h
  have h2 : laidMet Tryd.prog (("lodestone/sha.salts", Lib.tabData .u32 Sha.ssL) :: [("unicode/utf8.acceptRanges", Rows.laid_unicode_utf8_acceptRanges), ("unicode/utf8.first", Rows.laid_unicode_utf8_first)]) W := h
  have ht := Lib.tabIs_of_head (g := Sha.gSalts) (by kernel_rfl) (by kernel_rfl) Tryd.underlying140 Tryd.underlying22 (by kernel_rfl) (by kernel_rfl) h2
  have hc := fun i (hi : i < 64) => ht.cell (g := Sha.gSalts) (by kernel_rfl) i (Nat.lt_of_lt_of_eq hi Sha.ssL_length.symm)
  refine ⟨hc, ?_⟩
  have h0 := hc 0 (by decide)
  unfold World.cell? at h0
  split at h0
  · rename_i c e2
    exact (Array.getElem?_eq_some_iff.1 e2).1
  · cases h0
theorem own : ownKnob Tryd.prog.godebug = none := by kernel_rfl
theorem okWide_array {P : Program} {w : World} {r : Reach} {base : Nat} {t e : TypeId} {n : Nat} {v : Value} (ht : P.underlying t = some (.array n e)) (h : Value.okWide P w r base t v) : ∃ cs, v = .agg cs ∧ cs.size = P.cellsOf t := by
  simp only [Value.okWide, ht] at h
  obtain ⟨cs, h1, h2, _⟩ := h
  exact ⟨cs, h1, h2⟩
theorem laidOut : laidOutB Tryd.prog = true := by kernel_rfl
set_option maxRecDepth 100000 in
set_option linter.unusedSimpArgs false in
set_option linter.unusedVariables false in
theorem open0 {H : Type} {enc : TypeId × Value → H} {w : World} {base : Nat} {spare : Nat → Bool} {held : Bool} {r : Reach} {b0 : Nat} {v : Value} {d : DataW H} {ps : List MemPlace}
    (hv : Value.okWide Tryd.prog w r b0 25 v) (h : DataW.Trod enc Tryd.prog w base spare held 25 v d ps) :
    ∃ (a0_0 : Int) (a0_1 : Int) (a0_2 : Int), v = .agg #[.int .u32 a0_0, .int .u64 a0_1, .int .u32 a0_2] ∧ d = .agg [.lit (.int .u32 a0_0), .lit (.int .u64 a0_1), .lit (.int .u32 a0_2)] ∧ ps = [] ∧ (Lit.int .u32 a0_0).wf = true ∧ (Lit.int .u64 a0_1).wf = true ∧ (Lit.int .u32 a0_2).wf = true := by
  have hc25 : Tryd.prog.cellsOf 25 = 3 := by kernel_rfl
  have hc22 : Tryd.prog.cellsOf 22 = 1 := by kernel_rfl
  have hc23 : Tryd.prog.cellsOf 23 = 1 := by kernel_rfl
  obtain ⟨cs, rfl, hsz⟩ := okWide_struct Tryd.underlying25 hv
  rw [hc25] at hsz
  obtain ⟨l⟩ := cs
  obtain ⟨fuel, hy⟩ := h
  match l, hsz with
  | [c0, c1, c2], _ =>
  simp only [Value.cells] at hy
  obtain ⟨ys, m, _, hx, _, hl, hf⟩ := DataW.trod_struct Tryd.underlying25 hy
  match ys, hl with
  | [y_0, y_1, y_2], _ =>
  have hy_0 := hf 0 _ rfl
  have hy_1 := hf 1 _ rfl
  have hy_2 := hf 2 _ rfl
  simp [hc22, hc23] at hy_0 hy_1 hy_2
  obtain ⟨a0_0, e0_0, hx_0, s0_0⟩ := DataW.trod_int Tryd.underlying22 hy_0
  obtain ⟨a0_1, e0_1, hx_1, s0_1⟩ := DataW.trod_int Tryd.underlying23 hy_1
  obtain ⟨a0_2, e0_2, hx_2, s0_2⟩ := DataW.trod_int Tryd.underlying22 hy_2
  simp at e0_0 e0_1 e0_2
  subst e0_0 e0_1 e0_2
  simp [hx_0, hx_1, hx_2] at hx
  obtain ⟨rfl, rfl⟩ := hx
  exact ⟨a0_0, a0_1, a0_2, rfl, by simp [hx_0, hx_1, hx_2], by simp [hx_0, hx_1, hx_2], s0_0, s0_1, s0_2⟩
set_option maxRecDepth 100000 in
set_option linter.unusedSimpArgs false in
set_option linter.unusedVariables false in
theorem open1 {H : Type} {enc : TypeId × Value → H} {w : World} {base : Nat} {spare : Nat → Bool} {held : Bool} {r : Reach} {b0 : Nat} {v : Value} {d : DataW H} {ps : List MemPlace}
    (hv : Value.okWide Tryd.prog w r b0 42 v) (h : DataW.Trod enc Tryd.prog w base spare held 42 v d ps) :
    ∃ (a1_0 : Int) (a1_1 : Int), v = .agg #[.int .i64 a1_0, .int .i64 a1_1] ∧ d = .agg [.lit (.int .i64 a1_0), .lit (.int .i64 a1_1)] ∧ ps = [] ∧ (Lit.int .i64 a1_0).wf = true ∧ (Lit.int .i64 a1_1).wf = true := by
  have hc42 : Tryd.prog.cellsOf 42 = 2 := by kernel_rfl
  have hc3 : Tryd.prog.cellsOf 3 = 1 := by kernel_rfl
  obtain ⟨cs, rfl, hsz⟩ := okWide_array Tryd.underlying42 hv
  rw [hc42] at hsz
  obtain ⟨l⟩ := cs
  obtain ⟨fuel, hy⟩ := h
  match l, hsz with
  | [c0, c1], _ =>
  simp only [Value.cells] at hy
  obtain ⟨ys, m, _, hx, _, hl, hf⟩ := DataW.trod_array Tryd.underlying42 hy
  match ys, hl with
  | [y_0, y_1], _ =>
  have hy_0 := hf 0 (by omega)
  have hy_1 := hf 1 (by omega)
  simp [hc3] at hy_0 hy_1
  obtain ⟨a1_0, e1_0, hx_0, s1_0⟩ := DataW.trod_int Tryd.underlying3 hy_0
  obtain ⟨a1_1, e1_1, hx_1, s1_1⟩ := DataW.trod_int Tryd.underlying3 hy_1
  simp at e1_0 e1_1
  subst e1_0 e1_1
  simp [hx_0, hx_1] at hx
  obtain ⟨rfl, rfl⟩ := hx
  exact ⟨a1_0, a1_1, rfl, by simp [hx_0, hx_1], by simp [hx_0, hx_1], s1_0, s1_1⟩
set_option linter.unusedVariables false in
set_option maxRecDepth 100000 in
theorem lifted (os : Os) (started : os.Started) (H : Type) (enc : TypeId × Value → H) :
    ReturnsInHanded {} Tryd.checked os 5 .any (fun w args => (Rows.blockPlacesSpec.pre enc Tryd.prog Tryd.f5 [] false w args ∧ laidMetH Tryd.prog [("lodestone/sha.salts", Rows.laid_lodestone_sha_salts), ("unicode/utf8.acceptRanges", Rows.laid_unicode_utf8_acceptRanges), ("unicode/utf8.first", Rows.laid_unicode_utf8_first)] w) ∧ sizedMet enc Tryd.prog Tryd.f5 (OpenSpec.ofChange Rows.blockPlacesSpec) false w args) (Rows.blockPlacesSpec.post enc Tryd.prog Tryd.f5 false true false false) := by
  refine returnsInHanded_of_change_and (C := Tryd.checked) (X := fun w _ => laidMetH Tryd.prog [("lodestone/sha.salts", Rows.laid_lodestone_sha_salts), ("unicode/utf8.acceptRanges", Rows.laid_unicode_utf8_acceptRanges), ("unicode/utf8.first", Rows.laid_unicode_utf8_first)] w) (fun _ _ _ hh h => h.of_heap hh) own started (by kernel_rfl) Tryd.func5
    (ChangeSpec.witness_shaped (enc := enc) (C := Tryd.checked) (os := os) (X := fun w _ => laidMetH Tryd.prog [("lodestone/sha.salts", Rows.laid_lodestone_sha_salts), ("unicode/utf8.acceptRanges", Rows.laid_unicode_utf8_acceptRanges), ("unicode/utf8.first", Rows.laid_unicode_utf8_first)] w) false (World.laidAll Tryd.prog os [("lodestone/sha.salts", Rows.laid_lodestone_sha_salts), ("unicode/utf8.acceptRanges", Rows.laid_unicode_utf8_acceptRanges), ("unicode/utf8.first", Rows.laid_unicode_utf8_first)]) #[.agg #[.int .u32 0, .int .u64 0, .int .u32 0], .agg #[.int .i64 0, .int .i64 0], .string ByteArray.empty] 8 (World.laidAll_os _ _ _) (World.shaped_of_ZipB (by kernel_rfl) (by kernel_rfl)) (by kernel_rfl) (by kernel_rfl) (by kernel_rfl) (by rw [MakeChecks.laidMetH_plain _ _ _ (by kernel_rfl)]; exact laidMet_laidAll _ (by kernel_rfl) (by kernel_rfl))) ?_
  intro W base args ds gs before hval0 hW hcnd hsz0 hL _
  have hG_ := met hL
  have hsz : (DataW.weightsEach Tryd.prog (Tryd.f5.params.toList ++ Rows.blockPlacesSpec.plain.varTypes Tryd.prog) (ds ++ gs)).all (· ≤ reachBytes) = true := hsz0
  have hval : ∀ (j : Nat) t v, Tryd.f5.params[j]? = some t → args[j]? = some v → Value.okWide Tryd.prog W .any base t v := hval0
  have hW' := hW
  obtain ⟨p, q, hA0, hV, rfl, hfz, hnd⟩ := hW
  have hA : DataW.TrodAll enc Tryd.prog W 0 (fun _ => true) true Tryd.f5.params.toList args.toList ds p := hA0
  rw [Tryd.params5] at hA hval hsz
  obtain ⟨v0, vs0, d0, ds0, p0, q0, hargs, rfl, rfl, h0, r0⟩ := trodAll_cons hA
  obtain ⟨v1, vs1, d1, ds1, p1, q1, rfl, rfl, rfl, h1, r1⟩ := trodAll_cons r0
  obtain ⟨v2, vs2, d2, ds2, p2, q2, rfl, rfl, rfl, h2, r2⟩ := trodAll_cons r1
  obtain ⟨rfl, rfl, rfl⟩ := trodAll_nil r2
  obtain rfl : args = #[v0, v1, v2] := by cases args; simp_all
  obtain ⟨rfl, rfl⟩ := trodVars_none hV
  have k0 := h0
  have lt0 : ∀ x ∈ p0, x.block < W.heap.size := by obtain ⟨m, hm⟩ := k0; exact DataW.trod_lt m _ _ _ hm
  obtain ⟨a0_0, a0_1, a0_2, rfl, rfl, rfl, w0_0, w0_1, w0_2⟩ := open0 (hval 0 25 v0 rfl rfl) h0
  have k1 := h1
  have lt1 : ∀ x ∈ p1, x.block < W.heap.size := by obtain ⟨m, hm⟩ := k1; exact DataW.trod_lt m _ _ _ hm
  obtain ⟨a1_0, a1_1, rfl, rfl, rfl, w1_0, w1_1⟩ := open1 (hval 1 42 v1 rfl rfl) h1
  obtain ⟨a2, rfl, rfl, rfl, y2⟩ := open_string Tryd.underlying9 (hval 2 9 v2 rfl rfl) h2
  have w2 : a2.size ≤ 140737488351232 := by
    have z := sized_string hsz (j := 2) (t := 9) rfl rfl
    rw [Array.length_toList] at z
    exact z
  clear hA0 hval0 hsz0 hsz
  refine (PureBlk.law_calls a0_0 a0_1 a0_2 a1_0 a1_1 a2 (PureBlk.lit_u32 w0_0) (PureBlk.lit_u64 w0_1) (PureBlk.lit_u32 w0_2) (by first | exact z2 | omega) W hG_).mono fun e W' ⟨he, bel⟩ => ?_
  subst he
  exact ⟨_, rfl, _, _, _, [], _, [], hW', trodAll_mk1 (shut_bool Tryd.underlying4 _), (trodAll_cons_mk (Below.trod laidOut (by kernel_rfl) (of_decide_eq_true (by kernel_rfl)) k0 bel lt0) (trodAll_cons_mk (Below.trod laidOut (by kernel_rfl) (of_decide_eq_true (by kernel_rfl)) k1 bel lt1) (trodAll_cons_mk (shut_string Tryd.underlying9 y2) trodAll_mk0))), rfl, bel.frame _, fun h => by cases h⟩
theorem over : Rows.blockPlacesRow.holds Tryd.pinned (OpenSpec.ofChange Rows.blockPlacesSpec) :=
  OpenClaim.holds_of_wide 5 Tryd.f5 rfl rfl rfl rfl rfl rfl rfl ⟨rfl, rfl, rfl, rfl, rfl⟩ rfl rfl rfl rfl rfl (by kernel_rfl) Tryd.func5 (by kernel_rfl)
    (of_decide_eq_true (by kernel_rfl)) (by unfold Func.isWrapper; first | (rw [if_pos (by decide +kernel)]; kernel_rfl) | (rw [if_neg (by decide +kernel)]; exact ⟨rfl, rfl⟩))
    (fun os started H enc _ => lifted os started H enc)
theorem proved : Rows.BlockPlacesSaid := over
theorem card_holds : Rows.BlockPlacesCardSaid :=
  Claim7.holds_tied_plain_at .later [] [.data, .data, .pinned] true (true, "5e033d52b1909c901187941086f557f9da2d63e681533b067158b1886f9bac42") false
    proved (fun _ h => by cases h) (by kernel_rfl) (fun _ h => by cases h) blockPlaces_row_tie rfl ⟨rfl, rfl⟩ (by kernel_rfl) rfl
    (fun f fn hf hfn => by
      obtain rfl : f = 5 := Option.some.inj ((show Tryd.prog.funcNamed (Rows.blockPlacesRow.func) = some 5 by kernel_rfl).symm.trans hf) |>.symm
      obtain rfl : fn = Tryd.f5 := (Option.some.inj (Tryd.func5.symm.trans hfn)).symm
      exact ⟨by kernel_rfl, fun j t ht => by
        have hall : (Tryd.f5.params.toList.all fun u => !Tryd.prog.wantsStandIn u) = true := by kernel_rfl
        have hm : t ∈ Tryd.f5.params.toList := Array.mem_toList_iff.2 (Array.mem_of_getElem? ht)
        exact (show Tryd.prog.wantsStandIn t = false by simpa using List.all_eq_true.1 hall t hm)⟩)
    (by kernel_rfl)
#print axioms card_holds
end Go.Proofs.YtgbhjkkfleeodaaDoor.blockPlaces
namespace Go.Proofs.YtgbhjkkfleeodaaDoor
theorem blockPlaces_holds : Rows.BlockPlacesCardSaid := blockPlaces.card_holds
end Go.Proofs.YtgbhjkkfleeodaaDoor
