/- The laws of books: what is awake, and BookReal, walked. -/
import Derived.Test.YtdkgdmjikoehaaaDoorBkB
namespace Go.Proofs.YtdkgdmjikoehaaaDoor.Bk
open Go.RowKit Go.Proofs.YtdkgdmjikoehaaaDoorW.PrintWords Go.Proofs.YtdkgdmjikoehaaaDoorW.PrintLast Go.Proofs.YtdkgdmjikoehaaaDoorW.PrintMore Go.Proofs.YtdkgdmjikoehaaaDoor.XB Go.Proofs.YtdkgdmjikoehaaaDoor.PBookReal Go.Proofs.YtdkgdmjikoehaaaDoor.Sha
attribute [local go_sem] max2_int min2_int max_two min_two max_three min_three max_four min_four   -- for this text's walks alone
set_option linter.unusedVariables false
set_option linter.unusedSimpArgs false
abbrev S0 : St := ⟨[], em, em, false, false⟩
theorem S0_next (d t : ByteArray) : S0.next d t = ⟨[(d, t)], em, em, false, false⟩ := rfl
theorem S1_next (d t : ByteArray) : (⟨[(d, t)], em, em, false, false⟩ : St).next d t = ⟨[(d, t)], em, em, false, false⟩ := by
  have h : look [(d, t)] d = some t := by
    unfold look
    exact if_pos rfl
  simp only [St.next, h]
  exact if_pos trivial
set_option maxHeartbeats 8000000 in
set_option maxRecDepth 100000 in
theorem awake_calls (w : World) (hG : SL w) : Calls Tryd.prog 10 #[] w fun e w' => e = .returned (.bool true) ∧ Below w.heap.size w w' := by
  have HG := Aside0.mk hG
  clear hG
  go_enter Tryd.func10, Tryd.ntmps10
  go_wp2_with (first | (go_at_call 6; fail))
  refine (new_calls _).mono ?_
  rintro e w1 ⟨g, m, rfl, hg, hm, hk, hb⟩
  have HK := Aside0.mk hk
  have HB := Aside0.mk hb
  have HS := Aside0.mk (show ∀ k, (k = g ∨ k = m) → w.heap.size ≤ k by rintro k (rfl | rfl); exact hg; exact hm)
  clear hk hb hg hm
  go_wp2_with (first | (go_at_call 7; fail))
  refine (sum_calls g m S0 ⟨#[97]⟩ (by decide) _ (SL.below HG.out HB.out) HK.out).mono ?_
  rintro e w2 ⟨rfl, hk, hu⟩
  have HB2 := Aside0.mk (HB.out.trans (hu.below HB.out.size HS.out))
  have HK2 := Aside0.mk hk
  clear HB HK hk hu
  go_wp2_with (first | (go_at_call 7; fail))
  refine (sum_calls g m _ ⟨#[97]⟩ (by decide) _ (SL.below HG.out HB2.out) HK2.out).mono ?_
  rintro e w3 ⟨rfl, hk, hu⟩
  have HB3 := Aside0.mk (HB2.out.trans (hu.below HB2.out.size HS.out))
  rw [S0_next, S1_next] at hk
  have HK3 := Aside0.mk hk
  clear HB2 HK2 hk hu
  go_wp2_with (first | (go_at_call 11; fail))
  refine (len_calls g m _ _ HK3.out).mono ?_
  rintro e w4 ⟨rfl, hb⟩
  have HB4 := Aside0.mk (below_step HB3.out hb)
  clear HB3 HK3 hb
  go_wp2
  go_ret
  exact ⟨rfl, HB4.out⟩
theorem real_f (x y : ByteArray) (hx : x.size ≤ 1000) (hy : y.size ≤ 1000) : book_Real.f x y = some (if x.toList = y.toList then false else ((dig x).toList == (dig y).toList)) := by
  have e : ∀ z : ByteArray, z.size ≤ 1000 → sha_Sum.f z = some (dig z) := fun z hz => by unfold sha_Sum.f; exact if_pos (by omega)
  unfold book_Real.f
  by_cases c : x.toList = y.toList
  · rw [if_pos c, if_pos c]
  · rw [if_neg c, if_neg c, e x hx, Option.bind_some, e y hy, Option.bind_some]
set_option maxHeartbeats 8000000 in
set_option maxRecDepth 100000 in
theorem real_law (a b : ByteArray) (ha : a.size ≤ 140737488351232) (hb : b.size ≤ 140737488351232) (w : World) (hG : SL w) :
    Calls Tryd.prog 5 #[.string a, .string b] w fun e w' => e = .returned (.bool true) ∧ Below w.heap.size w w' := by
  obtain ⟨m1, hm1⟩ : ∃ m : Int, (if 200 < (a.size : Int) then 200 else (a.size : Int)) = m := ⟨_, rfl⟩
  obtain ⟨m2, hm2⟩ : ∃ m : Int, (if 200 < (b.size : Int) then 200 else (b.size : Int)) = m := ⟨_, rfl⟩
  have g1 : 0 ≤ m1 ∧ m1 ≤ (a.size : Int) ∧ m1 ≤ 200 := by rw [← hm1]; split <;> omega
  have g2 : 0 ≤ m2 ∧ m2 ≤ (b.size : Int) ∧ m2 ≤ 200 := by rw [← hm2]; split <;> omega
  obtain ⟨x, hx⟩ : ∃ x, a.extract 0 m1.toNat = x := ⟨_, rfl⟩
  obtain ⟨y, hy⟩ : ∃ y, b.extract 0 m2.toNat = y := ⟨_, rfl⟩
  have hxs : x.size ≤ 200 := by rw [← hx, ByteArray.size_extract]; omega
  have hys : y.size ≤ 200 := by rw [← hy, ByteArray.size_extract]; omega
  have hsa : ∀ W : World, (Instr.slice 9 (.string a) none (some (.int .i64 m1)) none).run Tryd.prog W = .ok (.string x) W := fun W => by
    have h := run_slice_string_to_if (P := Tryd.prog) (w := W) 9 a .i64 m1 Tryd.underlying9
    rw [h, if_pos ⟨g1.1, g1.2.1⟩, hx]
  have hsb : ∀ W : World, (Instr.slice 9 (.string b) none (some (.int .i64 m2)) none).run Tryd.prog W = .ok (.string y) W := fun W => by
    have h := run_slice_string_to_if (P := Tryd.prog) (w := W) 9 b .i64 m2 Tryd.underlying9
    rw [h, if_pos ⟨g2.1, g2.2.1⟩, hy]
  have HX := Aside0.mk hxs
  have HY := Aside0.mk hys
  have HG := Aside0.mk hG
  obtain ⟨r, hr⟩ : ∃ r : Bool, (if x.toList = y.toList then false else ((dig x).toList == (dig y).toList)) = r := ⟨_, rfl⟩
  have hR := real_f x y (by omega) (by omega)
  rw [hr] at hR
  have HR := Aside0.mk hR
  have hR2 := real_f x x (by omega) (by omega)
  rw [if_pos rfl] at hR2
  have HR2 := Aside0.mk hR2
  have HB := Aside0.mk (Below.refl w.heap.size w)
  have HRR := Aside0.mk hr
  clear hG hx hy g1 g2 ha hb hxs hys hR hR2 hr
  go_enter Tryd.func5, Tryd.ntmps5
  go_wp2
  go_quiet (fail)
  all_goals have F2 := Aside0.mk (pw_below_drewN HB.out nq)
  clear HB hsa hsb hm1 hm2
  generalize w.drewN nq = w2 at F2 ⊢
  have HB := F2
  clear F2
  go_wp2_with (first | (go_at_call 9; fail))
  refine (twins_nil _).mono ?_
  rintro e w3 ⟨rfl, hb⟩
  have HB3 := Aside0.mk (below_step HB.out hb)
  clear HB hb
  go_wp2_with (first | (go_at_call 10; fail))
  refine (awake_calls _ (SL.below HG.out HB3.out)).mono ?_
  rintro e w4 ⟨rfl, hb⟩
  have HB4 := Aside0.mk (below_step HB3.out hb)
  clear HB3 hb
  go_wp2_with (first | (go_at_call 13; fail))
  refine (book_Real.calls x y r _ (SL.below HG.out HB4.out) HR.out).mono ?_
  rintro e w5 ⟨rfl, hb⟩
  have HB5 := Aside0.mk (below_step HB4.out hb)
  clear HB4 hb
  by_cases c : x.toList = y.toList
  · have c1 : (x.toList == y.toList) = true := beq_iff_eq.mpr c
    have c2 : (x.toList != y.toList) = false := bne_eq_false_iff_eq.mpr c
    have h := HRR.out
    rw [if_pos c] at h
    subst h
    clear c
    go_wp2_with (first | (go_at_call 13; fail))
    refine (book_Real.calls x x false _ (SL.below HG.out HB5.out) HR2.out).mono ?_
    rintro e w6 ⟨rfl, hb⟩
    have HB6 := Aside0.mk (below_step HB5.out hb)
    clear HB5 hb
    go_wp2_with (first | (go_at_call 7; fail))
    refine (sum_nil x (by have := HX.out; omega) _ (SL.below HG.out HB6.out)).mono ?_
    rintro e w7 ⟨rfl, hb⟩
    have HB7 := Aside0.mk (below_step HB6.out hb)
    clear HB6 hb
    go_wp2_with (first | (go_at_call 8; fail))
    refine (ref_dig x (by have := HX.out; omega) _).mono ?_
    rintro e w8 ⟨rfl, hb⟩
    have HB8 := Aside0.mk (below_step HB7.out hb)
    clear HB7 hb
    go_wp2_with (first | (go_at_call 11; fail))
    refine (len_nil _).mono ?_
    rintro e w9 ⟨rfl, hb⟩
    have HB9 := Aside0.mk (below_step HB8.out hb)
    clear HB8 hb
    go_wp2_with (first | (go_at_call 12; fail))
    refine (full_nil _).mono ?_
    rintro e w10 ⟨rfl, hb⟩
    have HB10 := Aside0.mk (below_step HB9.out hb)
    clear HB9 hb
    go_wp2
    go_ret
    exact ⟨rfl, HB10.out⟩
  · have c1 : (x.toList == y.toList) = false := beq_eq_false_iff_ne.mpr c
    have c2 : (x.toList != y.toList) = true := bne_iff_ne.mpr c
    have h := HRR.out
    rw [if_neg c] at h
    subst h
    clear c
    go_wp2_with (first | (go_at_call 8; fail))
    refine (ref_dig x (by have := HX.out; omega) _).mono ?_
    rintro e w6 ⟨rfl, hb⟩
    have HB6 := Aside0.mk (below_step HB5.out hb)
    clear HB5 hb
    go_wp2_with (first | (go_at_call 8; fail))
    refine (ref_dig y (by have := HY.out; omega) _).mono ?_
    rintro e w7 ⟨rfl, hb⟩
    have HB7 := Aside0.mk (below_step HB6.out hb)
    clear HB6 hb
    go_wp2_with (first | (go_at_call 13; fail))
    refine (book_Real.calls x x false _ (SL.below HG.out HB7.out) HR2.out).mono ?_
    rintro e w8 ⟨rfl, hb⟩
    have HB8 := Aside0.mk (below_step HB7.out hb)
    clear HB7 hb
    go_wp2_with (first | (go_at_call 7; fail))
    refine (sum_nil x (by have := HX.out; omega) _ (SL.below HG.out HB8.out)).mono ?_
    rintro e w9 ⟨rfl, hb⟩
    have HB9 := Aside0.mk (below_step HB8.out hb)
    clear HB8 hb
    go_wp2_with (first | (go_at_call 8; fail))
    refine (ref_dig x (by have := HX.out; omega) _).mono ?_
    rintro e w10 ⟨rfl, hb⟩
    have HB10 := Aside0.mk (below_step HB9.out hb)
    clear HB9 hb
    go_wp2_with (first | (go_at_call 11; fail))
    refine (len_nil _).mono ?_
    rintro e w11 ⟨rfl, hb⟩
    have HB11 := Aside0.mk (below_step HB10.out hb)
    clear HB10 hb
    go_wp2_with (first | (go_at_call 12; fail))
    refine (full_nil _).mono ?_
    rintro e w12 ⟨rfl, hb⟩
    have HB12 := Aside0.mk (below_step HB11.out hb)
    clear HB11 hb
    go_wp2
    go_ret
    exact ⟨rfl, HB12.out⟩
end Go.Proofs.YtdkgdmjikoehaaaDoor.Bk
