/- The law ShaRoots, walked. -/
import Derived.Test.YtehmnbdeokjogaaDoorShaG
import Derived.Test.YtehmnbdeokjogaaDoorShaZ
namespace Go.Proofs.YtehmnbdeokjogaaDoor.Sha
open Go.RowKit Go.Proofs.YtehmnbdeokjogaaDoorW.PrintWords Go.Proofs.YtehmnbdeokjogaaDoorW.PrintLast Go.Proofs.YtehmnbdeokjogaaDoorW.PrintMore Go.Proofs.YtehmnbdeokjogaaDoor.XA Go.Proofs.YtehmnbdeokjogaaDoor.XB
set_option linter.unusedVariables false
set_option linter.unusedSimpArgs false
theorem awake_calls (w : World) (hG : SL w) : Calls Tryd.prog 6 #[] w fun e w' => e = .returned (.bool true) ∧ Below w.heap.size w w' := by
  have HG := Aside0.mk hG
  clear hG
  have hd := dig_abc
  have HD := Aside0.mk hd
  clear hd
  go_enter Tryd.func6, Tryd.ntmps6
  go_wp2_with (go_at_call 7; with_reducible refine (sum_dig _ (by decide) _ HG.out).mono ?_; rintro e w1 ⟨rfl, hb⟩; rw [HD.out]; have HB := Aside0.mk hb; clear hb)
  go_ret
  exact ⟨by first | rfl | simp, HB.out⟩
set_option maxHeartbeats 8000000 in
set_option maxRecDepth 100000 in
theorem roots_calls (b : Int) (hb : 0 ≤ b ∧ b ≤ 255) (w : World) (hG : SL w) : Calls Tryd.prog 5 #[.int .u8 b] w fun e w' => e = .returned (.bool true) ∧ Below w.heap.size w w' := by
  have HG := Aside0.mk hG
  have HB := Aside0.mk (Below.refl w.heap.size w)
  obtain ⟨ys, hys⟩ : ∃ ys : List Int, ys = [b] := ⟨_, rfl⟩
  have NY := Aside0.mk hys
  have HS := Aside0.mk (show (strOfNums ys).size ≤ 140737488351232 by rw [hys, strOfNums_size]; simp)
  obtain ⟨d0, h0⟩ : ∃ d, dig ⟨#[]⟩ = d := ⟨_, rfl⟩
  obtain ⟨d1, h1⟩ : ∃ d, dig (strOfNums ys) = d := ⟨_, rfl⟩
  have D0 := Aside0.mk h0
  have D1 := Aside0.mk h1
  clear hG hys h0 h1 hb
  go_enter Tryd.func5, Tryd.ntmps5
  go_wp2_with (first
    | ((with_reducible refine gate_dst (N := 5) rfl ?_); refine Kd.R_lit (Kd.int .u8) _ 5 ?hg (N := 5) ?hd (xs := ([b] : List Int)) (inner := [.int .u8 b]) (ok := fun _ => True) (okp := fun _ => True) ?hr ?hp (fun _ hk => hk) trivial (Below.refl _ _) (Nat.le_refl _) (by simp) ?_; (case hd => rfl); (case hg => rfl); (case hr => first | (go_simp; done) | (go_simp; rfl)); (case hp => exact (Reps.one (show Kd.M (Kd.int .u8) _ _ _ b [.int .u8 b] from rfl) (Reps.none _ _))); intro v102 w7 ho8 hb hg_ hnew_; clear hg_ hnew_; rw [← NY.out] at ho8; have n0_ := Aside0.mk (Kd.R_lower ho8 HB.out.size); have n1_ := Aside0.mk (below_step HB.out hb); clear HB; have HO := n0_; have HB := n1_; clear n0_ n1_; clear hb ho8; have hcv9 := own_string (P := Tryd.prog) Tryd.underlying25 Tryd.underlying5 Tryd.underlying9 (Kd.own_of_R HO.out))
    | (go_at_call 6; with_reducible refine (awake_calls _ (SL.below HG.out HB.out)).mono ?_; rintro e w1 ⟨rfl, hb⟩; have n0 := Aside0.mk (below_step HB.out hb); clear HB hb; have HB := n0; clear n0)
    | (go_at_call 9; with_reducible refine (right_calls _).mono ?_; rintro e w1 ⟨rfl, hb⟩; have n0 := Aside0.mk (below_step HB.out hb); clear HB hb; have HB := n0; clear n0)
    | (go_at_call 7; with_reducible refine (sum_dig ⟨#[]⟩ (by decide) _ (SL.below HG.out HB.out)).mono ?_; rintro e w1 ⟨rfl, hb⟩; rw [D0.out]; have n0 := Aside0.mk (below_step HB.out hb); clear HB hb; have HB := n0; clear n0)
    | (go_at_call 8; with_reducible refine (ref_dig ⟨#[]⟩ (by decide) _).mono ?_; rintro e w1 ⟨rfl, hb⟩; rw [D0.out]; have n0 := Aside0.mk (below_step HB.out hb); clear HB hb; have HB := n0; clear n0)
    | (go_at_call 7; with_reducible refine (sum_dig (strOfNums ys) HS.out _ (SL.below HG.out HB.out)).mono ?_; rintro e w1 ⟨rfl, hb⟩; rw [D1.out]; have n0 := Aside0.mk (below_step HB.out hb); clear HB hb; have HB := n0; clear n0)
    | (go_at_call 8; with_reducible refine (ref_dig (strOfNums ys) HS.out _).mono ?_; rintro e w1 ⟨rfl, hb⟩; rw [D1.out]; have n0 := Aside0.mk (below_step HB.out hb); clear HB hb; have HB := n0; clear n0))
  go_ret
  exact ⟨by first | rfl | simp, HB.out⟩
theorem roots_law (b : Int) (hb : (Lit.int .u8 b).wf = true) (w : World) (hG : SL w) : Calls Tryd.prog 5 #[.int .u8 b] w fun e w' => e = .returned (.bool true) ∧ Below w.heap.size w w' := by
  refine roots_calls b ?_ w hG
  simp [Lit.wf] at hb
  have e1 : IntKind.u8.min = 0 := rfl
  have e2 : IntKind.u8.max = 255 := rfl
  omega
end Go.Proofs.YtehmnbdeokjogaaDoor.Sha
