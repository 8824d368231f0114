/- Square roots' first bits, as the document reckons them. -/
import Derived.Test.YtehmnbdeokjogaaDoorShaY
namespace Go.Proofs.YtehmnbdeokjogaaDoor.Sha
open Go.RowKit Go.Proofs.YtehmnbdeokjogaaDoorW.PrintWords Go.Proofs.YtehmnbdeokjogaaDoorW.PrintLast Go.Proofs.YtehmnbdeokjogaaDoorW.PrintMore Go.Proofs.YtehmnbdeokjogaaDoor.XA Go.Proofs.YtehmnbdeokjogaaDoor.XB
set_option linter.unusedVariables false
set_option linter.unusedSimpArgs false
def sqB (n : Int) : List Int → Bool
  | [x0, x1, x2, x3] => ((x3 == 0) && decide (x2 < n)) || ((x3 == 0) && (x2 == n) && (x1 == 0) && (x0 == 0))
  | _ => false
def sqT (n k : Int) : Bool := sqB n (timesL [k % 4294967296, k / 4294967296, 0, 0] k)
def squareN (n : Int) : Int := rootj 17179869184 (sqT n) 35 % 4294967296
theorem bit35 : ∀ j, j < 35 → decide (0 < bitj 17179869184 j) = true := by decide
theorem bit35z : bitj 17179869184 35 = 0 := by decide
theorem list4 (l : List Int) (h : l.length = 4) : ∃ a b c d, l = [a, b, c, d] := by
  match l, h with
  | [a, b, c, d], _ => exact ⟨a, b, c, d, rfl⟩
set_option maxHeartbeats 8000000 in
set_option maxRecDepth 100000 in
theorem square_calls (n : Int) (w : World) :
    Calls Tryd.prog 23 #[.int .u64 n] w fun e w' => e = .returned (.int .u32 (squareN n)) ∧ Below w.heap.size w w' := by
  have HB := Aside0.mk (Below.refl w.heap.size w)
  go_enter Tryd.func23, Tryd.ntmps23
  go_wp2
  go_loopw [3, 4] (fun k b wr => ∃ j : Nat, j ≤ 35 ∧ k = .int .u64 (rootj 17179869184 (sqT n) j) ∧ b = .int .u64 (bitj 17179869184 j) ∧ Below w.heap.size w wr) (fun _ b _ => (intOf b).toNat)
  case atStart => exact ⟨0, by omega, rfl, rfl, HB.out⟩
  case round =>
    clear HB
    obtain ⟨j, hj, rfl, rfl, hB⟩ := hrel
    have HB := Aside0.mk hB
    clear hB
    have hr := rootj_le 17179869184 (by omega) (sqT n) j
    have hb := bitj_pos 17179869184 (by omega) j
    by_cases hlt : j < 35
    · have q0 := bit35 j hlt
      obtain ⟨k, hk⟩ : ∃ k, rootj 17179869184 (sqT n) j = k := ⟨_, rfl⟩
      obtain ⟨b, hbb⟩ : ∃ b, bitj 17179869184 j = b := ⟨_, rfl⟩
      have hN : rootj 17179869184 (sqT n) (j + 1) = if sqT n (k + b) then k + b else k := by rw [rootj, hk, hbb]
      have hB2 : bitj 17179869184 (j + 1) = b / 2 := by rw [bitj, hbb]
      rw [hk, hbb] at hr
      rw [hbb] at hb q0
      have hb1 : 0 < b := of_decide_eq_true q0
      have w1 : IntKind.u64.wrap (k + b) = k + b := by rw [IntKind.wrap_u64]; omega
      have d2 : Int.tdiv b 2 = b / 2 := Int.tdiv_eq_ediv_of_nonneg hb
      have d3 : IntKind.u64.wrap (b / 2) = b / 2 := by rw [IntKind.wrap_u64]; omega
      have hu : U64 (k + b) := by unfold U64; omega
      have m1 : Int.tmod (k + b) 4294967296 = (k + b) % 4294967296 := Int.tmod_eq_emod_of_nonneg hu.1
      have m2 : Int.tdiv (k + b) 4294967296 = (k + b) / 4294967296 := Int.tdiv_eq_ediv_of_nonneg hu.1
      have m3 : IntKind.u64.wrap ((k + b) / 4294967296) = (k + b) / 4294967296 := by rw [IntKind.wrap_u64]; omega
      obtain ⟨p0, hp0⟩ : ∃ p, (k + b) % 4294967296 = p := ⟨_, rfl⟩
      obtain ⟨p1, hp1⟩ : ∃ p, (k + b) / 4294967296 = p := ⟨_, rfl⟩
      have m4 : IntKind.u64.wrap p1 = p1 := by rw [← hp1]; exact m3
      obtain ⟨x0, x1, x2, x3, hx⟩ := list4 (timesL [p0, p1, 0, 0] (k + b)) (timesL_length _ _)
      have hsq : sqT n (k + b) = sqB n [x0, x1, x2, x3] := by rw [sqT, hp0, hp1, hx]
      have T1 : ∀ W : World, Calls Tryd.prog 25 #[.agg #[.int .u64 p0, .int .u64 p1, .int .u64 0, .int .u64 0], .int .u64 (k + b)] W fun e w' => e = .returned (.agg (arrK .u64 [x0, x1, x2, x3])) ∧ Below W.heap.size W w' := fun W => by
        rw [← hx]
        exact times_calls [p0, p1, 0, 0] (k + b) rfl hu W
      have T1 := Aside0.mk T1
      have HM := Aside0.mk hb1
      rw [hk, hbb]
      have HN := Aside0.mk hN
      have HB2 := Aside0.mk hB2
      have HSQ := Aside0.mk hsq
      clear hk hbb hN hB2 hr hb hb1 hu hx hsq
      cases e3 : (x3 == 0) <;> cases el : decide (x2 < n) <;> cases ee : (x2 == n) <;> cases e1 : (x1 == 0) <;> cases e0 : (x0 == 0)
      all_goals have HS2 := HSQ.out
      all_goals simp only [sqB, e3, el, ee, e1, e0, Bool.and_true, Bool.and_false, Bool.true_and, Bool.false_and, Bool.or_true, Bool.or_false, Bool.true_or, Bool.false_or] at HS2
      all_goals have HT := Aside0.mk HN.out
      all_goals rw [HS2] at HT
      all_goals clear HS2
      all_goals go_wp2_with (first
        | (go_at_call 25; with_reducible refine (T1.out _).mono ?_; rintro e w1 ⟨rfl, hb⟩; have n0 := Aside0.mk (below_step HB.out hb); clear HB hb; have HB := n0; clear n0)
        | ((with_reducible refine gate_dst (N := 5) rfl ?_); refine arr_new ?hg (N := 5) ?hd z4 .u64 47 ?hr ?_; (case hd => rfl); (case hg => rfl); (case hr => first | (go_simp; done) | (go_simp; rfl)); intro gx eg w2 hx hb; have HX := Aside0.mk hx; have n0 := Aside0.mk (below_step HB.out hb); have LX := Aside0.mk (show w.heap.size ≤ gx by rw [eg]; exact HB.out.size); clear HB hx hb eg; have HB := n0; clear n0)
        | ((with_reducible refine gate_store (t := 47) (p := 5) (v := .tmp 22) rfl ?_); refine arr_store rfl rfl 47 (.tmp 5) (.tmp 22) rfl gx .u64 z4 [x0, x1, x2, x3] rfl rfl 47 HX.out (by kernel_rfl) rfl ?_; intro w3 hx hs; have n0 := Aside0.mk (hs.below HB.out LX.out); have c0 := hx.cell 0 (by simp); have c1 := hx.cell 1 (by simp); have c2 := hx.cell 2 (by simp); have c3 := hx.cell 3 (by simp); simp only [List.getD_cons_zero, List.getD_cons_succ] at c0 c1 c2 c3; clear HB HX hx hs; have HB := n0; clear n0))
      all_goals go_roundw
      all_goals first
        | exact ⟨j + 1, by omega, by rw [HT.out]; simp, by rw [HB2.out], HB.out⟩
        | (have := HM.out; simp [intOf]; omega)
    · have ej : j = 35 := by omega
      subst ej
      rw [bit35z] at hr ⊢
      obtain ⟨k, hk⟩ : ∃ k, rootj 17179869184 (sqT n) 35 = k := ⟨_, rfl⟩
      rw [hk] at hr ⊢
      have HE := Aside0.mk (show squareN n = k % 4294967296 by rw [squareN, hk])
      have d1 : Int.tmod k 4294967296 = k % 4294967296 := Int.tmod_eq_emod_of_nonneg hr.1
      clear hk hlt hj hb hr
      go_wp2
      go_ret
      refine ⟨?_, HB.out⟩
      rw [HE.out]
      simp
end Go.Proofs.YtehmnbdeokjogaaDoor.Sha
