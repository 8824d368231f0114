/- Whether a cube is above a number; cube roots' first bits. -/
import Derived.Test.YtehmnbdeokjogaaDoorShaV
namespace Go.Proofs.YtehmnbdeokjogaaDoor.Sha
open Go.RowKit Go.Proofs.YtehmnbdeokjogaaDoorW.PrintWords Go.Proofs.YtehmnbdeokjogaaDoorW.PrintLast Go.Proofs.YtehmnbdeokjogaaDoorW.PrintMore Go.Proofs.YtehmnbdeokjogaaDoor.XA Go.Proofs.YtehmnbdeokjogaaDoor.XB
set_option linter.unusedVariables false
set_option linter.unusedSimpArgs false
theorem timesL_length (xs : List Int) (k : Int) : (timesL xs k).length = 4 := tO_length _ _ _
def gtB (xs ys : List Int) : Nat → Bool
  | 0 => false
  | i + 1 => if xs.getD i 0 = ys.getD i 0 then gtB xs ys i else decide (ys.getD i 0 < xs.getD i 0)
def cubeL (k : Int) : List Int := timesL (timesL [k % 4294967296, k / 4294967296, 0, 0] k) k
def aboveB (k n : Int) : Bool := gtB (cubeL k) [0, 0, 0, n] 4
set_option maxHeartbeats 8000000 in
set_option maxRecDepth 100000 in
theorem above_calls (k n : Int) (hk : U64 k) (w : World) :
    Calls Tryd.prog 24 #[.int .u64 k, .int .u64 n] w fun e w' => e = .returned (.bool (aboveB k n)) ∧ Below w.heap.size w w' := by
  have HB := Aside0.mk (Below.refl w.heap.size w)
  have HK := Aside0.mk hk
  obtain ⟨k0, k1⟩ := hk
  have d1 : Int.tmod k 4294967296 = k % 4294967296 := Int.tmod_eq_emod_of_nonneg k0
  have d2 : Int.tdiv k 4294967296 = k / 4294967296 := Int.tdiv_eq_ediv_of_nonneg k0
  have d3 : IntKind.u64.wrap (k / 4294967296) = k / 4294967296 := by rw [IntKind.wrap_u64]; omega
  obtain ⟨p0, hp0⟩ : ∃ p, k % 4294967296 = p := ⟨_, rfl⟩
  obtain ⟨p1, hp1⟩ : ∃ p, k / 4294967296 = p := ⟨_, rfl⟩
  obtain ⟨x1, hx1⟩ : ∃ x, timesL [p0, p1, 0, 0] k = x := ⟨_, rfl⟩
  obtain ⟨x2, hx2⟩ : ∃ x, timesL x1 k = x := ⟨_, rfl⟩
  have L1 := Aside0.mk (show x1.length = 4 by rw [← hx1]; exact timesL_length _ _)
  have L2 := Aside0.mk (show x2.length = 4 by rw [← hx2]; exact timesL_length _ _)
  have X1 := Aside0.mk hx1
  have X2 := Aside0.mk hx2
  have HE := Aside0.mk (show aboveB k n = gtB x2 [0, 0, 0, n] 4 by rw [aboveB, cubeL, hp0, hp1, hx1, hx2])
  have T1 : ∀ W : World, Calls Tryd.prog 25 #[.agg #[.int .u64 p0, .int .u64 p1, .int .u64 0, .int .u64 0], .int .u64 k] W fun e w' => e = .returned (.agg (arrK .u64 x1)) ∧ Below W.heap.size W w' := fun W => by
    rw [← hx1]
    exact times_calls [p0, p1, 0, 0] k rfl HK.out W
  have T1 := Aside0.mk T1
  clear hx1 hx2
  go_enter Tryd.func24, Tryd.ntmps24
  go_wp2_with (first
    | (go_at_call 25; with_reducible refine (T1.out _).mono ?_; rintro e w1 ⟨rfl, hb⟩; have n0 := Aside0.mk (below_step HB.out hb); clear HB hb; have HB := n0; clear n0)
    | ((with_reducible refine gate_dst (N := 5) rfl ?_); refine arr_new ?hg (N := 5) ?hd z4 .u64 47 ?hr ?_; (case hd => rfl); (case hg => rfl); (case hr => first | (go_simp; done) | (go_simp; rfl)); intro ga eg w2 hx hb; have HA := Aside0.mk hx; have n0 := Aside0.mk (below_step HB.out hb); have LA := Aside0.mk (show w.heap.size ≤ ga by rw [eg]; exact HB.out.size); clear HB hx hb eg; have HB := n0; clear n0)
    | ((with_reducible refine gate_store (t := 47) (p := 5) (v := .tmp 14) rfl ?_); refine arr_store rfl rfl 47 (.tmp 5) (.tmp 14) rfl ga .u64 z4 x1 rfl rfl 47 HA.out (by rw [L1.out]; kernel_rfl) (by rw [L1.out]; rfl) ?_; intro w3 hx hs; have n0 := Aside0.mk (hs.below HB.out LA.out); clear HB HA; have HA := Aside0.mk hx; have HB := n0; clear n0 hx hs)
    | ((with_reducible refine gate_dst (N := 15) rfl ?_); refine arr_load rfl 47 (.tmp 5) rfl ga 4 38 .u64 x1 rfl 47 HA.out Tryd.underlying47 (by rw [L1.out]; kernel_rfl) ?_)
    | (go_at_call 25; with_reducible refine (times_calls x1 k L1.out HK.out _).mono ?_; rintro e w4 ⟨rfl, hb⟩; rw [X2.out]; have n0 := Aside0.mk (below_step HB.out hb); have n1 := Aside0.mk (HA.out.below hb); clear HB HA hb; have HB := n0; have HA := n1; clear n0 n1)
    | ((with_reducible refine gate_store (t := 47) (p := 5) (v := .tmp 17) rfl ?_); refine arr_store rfl rfl 47 (.tmp 5) (.tmp 17) rfl ga .u64 x1 x2 rfl rfl 47 HA.out (by rw [L2.out]; kernel_rfl) (by rw [L1.out, L2.out]) ?_; intro w5 hx hs; have n0 := Aside0.mk (hs.below HB.out LA.out); clear HB HA; have HA := Aside0.mk hx; have HB := n0; clear n0 hx hs)
    | ((with_reducible refine gate_dst (N := 6) rfl ?_); refine arr_new ?hg (N := 6) ?hd z4 .u64 47 ?hr ?_; (case hd => rfl); (case hg => rfl); (case hr => first | (go_simp; done) | (go_simp; rfl)); intro gb eg w6 hx hb; have n1 := Aside0.mk (HA.out.below hb); have HC := Aside0.mk hx; have n0 := Aside0.mk (below_step HB.out hb); have LC := Aside0.mk (show w.heap.size ≤ gb by rw [eg]; exact HB.out.size); have NAC := Aside0.mk (show ga ≠ gb by rw [eg]; exact Nat.ne_of_lt HA.out.lt); clear HB HA hx hb eg; have HB := n0; have HA := n1; clear n0 n1)
    | ((with_reducible refine gate_store (t := 47) (p := 6) (v := .tmp 19) rfl ?_); refine arr_store rfl rfl 47 (.tmp 6) (.tmp 19) rfl gb .u64 z4 [0, 0, 0, n] rfl rfl 47 HC.out (by kernel_rfl) rfl ?_; intro w7 hx hs; have n0 := Aside0.mk (hs.below HB.out LC.out); have n1 := Aside0.mk (hs.arr HA.out NAC.out); clear HB HC HA; have HC := Aside0.mk hx; have HB := n0; have HA := n1; clear n0 n1 hx hs))
  clear d1 d2 d3 hp0 hp1 k0 k1
  go_loopw [7] (fun i wr => ∃ m : Nat, m ≤ 4 ∧ i = .int .i64 ((m : Int) - 1) ∧ aboveB k n = gtB x2 [0, 0, 0, n] m ∧ IsArr wr ga 47 .u64 x2 ∧ IsArr wr gb 47 .u64 [0, 0, 0, n] ∧ Below w.heap.size w wr) (fun i _ => (intOf i + 1).toNat)
  case atStart => exact ⟨4, by omega, rfl, HE.out, HA.out, HC.out, HB.out⟩
  case round =>
    clear HA HC HB HE
    obtain ⟨m, hm, rfl, hE, hA, hC, hB⟩ := hrel
    have HE := Aside0.mk hE; have HA := Aside0.mk hA; have HC := Aside0.mk hC; have HB := Aside0.mk hB
    clear hE hA hC hB
    rcases m with _ | m
    · have q0 : decide ((0 : Int) ≤ ((0 : Nat) : Int) - 1) = false := by decide
      go_wp2
      go_ret
      exact ⟨by rw [HE.out]; rfl, HB.out⟩
    · rw [show (((m + 1 : Nat) : Int)) - 1 = (m : Int) by omega]
      have q0 : decide ((0 : Int) ≤ (m : Int)) = true := decide_eq_true (by omega)
      obtain ⟨u, hu⟩ : ∃ u, x2.getD m 0 = u := ⟨_, rfl⟩
      obtain ⟨v, hv⟩ : ∃ v, ([0, 0, 0, n] : List Int).getD m 0 = v := ⟨_, rfl⟩
      have hcu : wr.cell? ⟨ga, m, none⟩ = some (.int .u64 u) := by rw [← hu]; exact HA.out.cell m (by rw [L2.out]; omega)
      have hcv : wr.cell? ⟨gb, m, none⟩ = some (.int .u64 v) := by rw [← hv]; exact HC.out.cell m (by simp; omega)
      have q1 : (0 : Int) ≤ m := by omega
      have q2 : (m : Int) < 4 := by omega
      have HG := Aside0.mk (show gtB x2 [0, 0, 0, n] (m + 1) = if u = v then gtB x2 [0, 0, 0, n] m else decide (v < u) by rw [gtB, hu, hv])
      clear hu hv
      by_cases huv : u = v
      · have q3 : (u != v) = false := by rw [bne_eq_false_iff_eq]; exact huv
        have HG2 := Aside0.mk (show aboveB k n = gtB x2 [0, 0, 0, n] m by rw [HE.out, HG.out, if_pos huv])
        clear huv
        go_wp2
        go_quiet (fail)
        all_goals have F2 := Aside0.mk (And.intro (HA.out.drewN nq) (And.intro (HC.out.drewN nq) (pw_below_drewN HB.out nq)))
        go_wp2
        go_roundw
        case rel => exact ⟨m, by omega, by go_num, HG2.out, F2.out.1, F2.out.2.1, F2.out.2.2⟩
        case measure => first | (simp [intOf]; done) | (simp [intOf]; omega)
      · have q3 : (u != v) = true := by rw [bne_iff_ne]; exact huv
        have HG2 := Aside0.mk (show aboveB k n = decide (v < u) by rw [HE.out, HG.out, if_neg huv])
        clear huv
        go_wp2
        go_quiet (fail)
        all_goals have F2 := Aside0.mk (And.intro (HA.out.drewN nq) (And.intro (HC.out.drewN nq) (pw_below_drewN HB.out nq)))
        have hcu2 : (wr.drewN nq).cell? ⟨ga, m, none⟩ = some (.int .u64 u) := hcu
        have hcv2 : (wr.drewN nq).cell? ⟨gb, m, none⟩ = some (.int .u64 v) := hcv
        clear hcu hcv HA HC HB
        generalize wr.drewN nq = w9 at F2 hcu2 hcv2 ⊢
        go_wp2
        go_quiet (fail)
        all_goals go_wp2
        all_goals go_ret
        all_goals exact ⟨by rw [HG2.out]; rfl, pw_below_drewN F2.out.2.2 _⟩
end Go.Proofs.YtehmnbdeokjogaaDoor.Sha
