/- The document's words ahead of all; whether all is right. -/
import Derived.Test.YtehmnbdeokjogaaDoorShaO
namespace Go.Proofs.YtehmnbdeokjogaaDoor.Sha
open Go.RowKit Go.Proofs.YtehmnbdeokjogaaDoorW.PrintWords Go.Proofs.YtehmnbdeokjogaaDoorW.PrintLast Go.Proofs.YtehmnbdeokjogaaDoorW.PrintMore Go.Proofs.YtehmnbdeokjogaaDoor.XA Go.Proofs.YtehmnbdeokjogaaDoor.XB Go.Proofs.YtehmnbdeokjogaaDoor.PShaRoots
set_option linter.unusedVariables false
set_option linter.unusedSimpArgs false
theorem row_cells {k : IntKind} {E : Nat} {w w' : World} {B : Nat} {v : Value} {xs : List Int} (hl : xs.length = 64) (hR : Kd.R (Kd.int k) E w' B (fun _ => True) v xs) :
    ∃ g c, v = .slice (some ⟨g, 0, none⟩) 64 c ∧ g < w'.heap.size ∧ (∀ i, i < 64 → w'.cell? ⟨g, i, none⟩ = some (.int k (xs.getD i 0))) := by
  have ho := Kd.own_of_R hR
  obtain ⟨A, c, rfl, _, hC⟩ := Kd.R_reads hR
  rcases ho with ⟨_, ⟨h1, h0⟩ | ⟨g, cap, cur, h1, h2⟩⟩
  · exact absurd h0 (by rw [hl]; decide)
  · injection h1 with e1 e2 e3
    subst e1
    exact ⟨g, c, by rw [hl], (blk_lt h2.2.1), fun i hi => (Kd.R_cell (0 : Int) hR (i : Int) (by omega) (by rw [hl]; omega)).1⟩
theorem prL_length : prL.length = 64 := rfl
theorem primes_cells (w : World) : Calls Tryd.prog 21 #[] w fun e w' => ∃ g c, e = .returned (.slice (some ⟨g, 0, none⟩) 64 c) ∧ g < w'.heap.size ∧ (∀ i, i < 64 → w'.cell? ⟨g, i, none⟩ = some (.int .u64 (prL.getD i 0))) ∧ Below w.heap.size w w' := by
  refine (lodestoneref01_primes.calls 20000 prL w primes_f).mono ?_
  rintro e w' ⟨v, rfl, hR, hb⟩
  obtain ⟨g, c, rfl, h1, h2⟩ := row_cells (w := w) prL_length hR
  exact ⟨g, c, rfl, h1, h2, hb⟩
theorem salts_cells (w : World) : Calls Tryd.prog 16 #[] w fun e w' => ∃ g c, e = .returned (.slice (some ⟨g, 0, none⟩) 64 c) ∧ g < w'.heap.size ∧ (∀ i, i < 64 → w'.cell? ⟨g, i, none⟩ = some (.int .u32 (ssL.getD i 0))) ∧ Below w.heap.size w w' := by
  refine (lodestoneref01_Salts.calls 20000 ssL w salts_f).mono ?_
  rintro e w' ⟨v, rfl, hR, hb⟩
  obtain ⟨g, c, rfl, h1, h2⟩ := row_cells (w := w) ssL_length hR
  exact ⟨g, c, rfl, h1, h2, hb⟩
def z8 : List Int := [0, 0, 0, 0, 0, 0, 0, 0]
def bg : Nat → List Int
  | 0 => z8
  | j + 1 => (bg j).set j (squareN (prL.getD j 0))
theorem bg_length (j : Nat) : (bg j).length = 8 := by
  induction j with
  | zero => rfl
  | succ j ih => rw [bg, List.length_set, ih]
theorem bg_eight : bg 8 = h0L := squares
set_option maxHeartbeats 8000000 in
set_option maxRecDepth 100000 in
theorem begin_calls (w : World) : Calls Tryd.prog 17 #[] w fun e w' => e = .returned (.agg (arrK .u32 h0L)) ∧ Below w.heap.size w w' := by
  have HB := Aside0.mk (Below.refl w.heap.size w)
  go_enter Tryd.func17, Tryd.ntmps17
  go_wp2_with (first
    | ((with_reducible refine gate_dst (N := 0) rfl ?_); refine arr_new ?hg (N := 0) ?hd z8 .u32 29 ?hr ?_; (case hd => rfl); (case hg => rfl); (case hr => first | (go_simp; done) | (go_simp; rfl)); intro gr eg w1 hx hb; have HR := Aside0.mk hx; have n0 := Aside0.mk (below_step HB.out hb); have LR := Aside0.mk (show w.heap.size ≤ gr by rw [eg]; exact HB.out.size); clear HB hx hb eg; have HB := n0; clear n0)
    | (go_at_call 21; with_reducible refine (primes_cells _).mono ?_; rintro e w2 ⟨g, c, rfl, hgl, hC, hb⟩; have n0 := Aside0.mk (below_step HB.out hb); have n1 := Aside0.mk (HR.out.below hb); clear HB HR hb; have HB := n0; have HR := n1; have HB2 := Aside0.mk (Below.refl w2.heap.size w2); have HGL := Aside0.mk hgl; have HC := Aside0.mk hC; have NR := Aside0.mk HR.out.lt; clear n0 n1 hgl hC)
    | ((with_reducible refine gate_dst (N := 1) rfl ?_); refine arr_new ?hg (N := 1) ?hd z8 .u32 29 ?hr ?_; (case hd => rfl); (case hg => rfl); (case hr => first | (go_simp; done) | (go_simp; rfl)); intro gx eg w3 hx hb; have n1 := Aside0.mk (HR.out.below hb); have HX := Aside0.mk hx; have n0 := Aside0.mk (below_step HB.out hb); have n2 := Aside0.mk (below_step HB2.out hb); have LX := Aside0.mk (show w.heap.size ≤ gx by rw [eg]; exact HB.out.size); have LX2 := Aside0.mk (show w2.heap.size ≤ gx by rw [eg]; exact HB2.out.size); have NRX := Aside0.mk (show gr ≠ gx by rw [eg]; exact Nat.ne_of_lt HR.out.lt); clear HB HB2 HR hx hb eg; have HB := n0; have HR := n1; have HB2 := n2; clear n0 n1 n2)
    | ((with_reducible refine gate_store (t := 29) (p := 1) (v := .tmp 4) rfl ?_); refine arr_store rfl rfl 29 (.tmp 1) (.tmp 4) rfl gx .u32 z8 z8 rfl rfl 29 HX.out (by kernel_rfl) rfl ?_; intro w4 hx hs; have n0 := Aside0.mk (hs.below HB.out LX.out); have n2 := Aside0.mk (hs.below HB2.out LX2.out); have n1 := Aside0.mk (hs.arr HR.out NRX.out); clear HB HB2 HX HR; have HX := Aside0.mk hx; have HB := n0; have HB2 := n2; have HR := n1; clear n0 n1 n2 hx hs))
  go_loopw [3] (fun i wr => ∃ j : Nat, j ≤ 8 ∧ i = .int .i64 j ∧ IsArr wr gr 29 .u32 z8 ∧ IsArr wr gx 29 .u32 (bg j) ∧ Below w.heap.size w wr ∧ Below w2.heap.size w2 wr) (fun i _ => 8 - (intOf i).toNat)
  case atStart => exact ⟨0, by omega, rfl, HR.out, HX.out, HB.out, HB2.out⟩
  case round =>
    clear HR HX HB HB2
    obtain ⟨j, hj, rfl, hR, hX, hB, hB2⟩ := hrel
    have HR := Aside0.mk hR; have HX := Aside0.mk hX; have HB := Aside0.mk hB; have HB2 := Aside0.mk hB2
    clear hR hX hB hB2
    by_cases hlt : j < 8
    · have q0 : decide ((j : Int) < 8) = true := decide_eq_true (by omega)
      have q1 : (0 : Int) ≤ j := by omega
      have q2 : (j : Int) < 8 := by omega
      have q3 : (j : Int) < 64 := by omega
      obtain ⟨p, hp⟩ : ∃ p, prL.getD j 0 = p := ⟨_, rfl⟩
      have hcp : wr.cell? ⟨g, j, none⟩ = some (.int .u64 p) := by rw [← hp]; exact (HB2.out.cell (p := ⟨g, j, none⟩) HGL.out).trans (HC.out j (by omega))
      have HN := Aside0.mk (show bg (j + 1) = (bg j).set j (squareN p) by rw [bg, hp])
      clear hp
      obtain ⟨xs, hxs⟩ : ∃ xs, bg j = xs := ⟨_, rfl⟩
      have HL := Aside0.mk (show xs.length = 8 by rw [← hxs, bg_length])
      rw [hxs] at HX HN
      clear hxs
      go_wp2_with (go_at_call 23; with_reducible refine (square_calls p _).mono ?_; rintro e w7 ⟨rfl, hb⟩; have n0 := Aside0.mk (below_step HB.out hb); have n1 := Aside0.mk (HR.out.below hb); have n2 := Aside0.mk (HX.out.below hb); have n3 := Aside0.mk (below_step HB2.out hb); clear HB HR HX HB2 hb; have HB := n0; have HR := n1; have HX := n2; have HB2 := n3; clear n0 n1 n2 n3; obtain ⟨vo, hvo⟩ : ∃ v, w7.cell? ⟨gx, j, none⟩ = some (.int .u32 v) := ⟨_, HX.out.cell j (by rw [HL.out]; exact hlt)⟩; have hfo := HX.out.frozen j)
      go_roundw
      case rel => exact ⟨j + 1, by omega, by go_num, HR.out.far NRX.out _, by rw [HN.out]; exact HX.out.set j _, below_set HB.out LX.out, below_set HB2.out LX2.out⟩
      case measure => simp [intOf]; omega
    · have ej : j = 8 := by omega
      subst ej
      rw [show ((8 : Nat) : Int) = 8 from rfl]
      rw [bg_eight] at HX
      go_wp2_with (first
        | ((with_reducible refine gate_dst (N := 17) rfl ?_); refine arr_load rfl 29 (.tmp 1) rfl gx 8 28 .u32 h0L rfl 29 HX.out Tryd.underlying29 (by kernel_rfl) ?_)
        | ((with_reducible refine gate_store (t := 29) (p := 0) (v := .tmp 17) rfl ?_); refine arr_store rfl rfl 29 (.tmp 0) (.tmp 17) rfl gr .u32 z8 h0L rfl rfl 29 HR.out (by kernel_rfl) rfl ?_; intro w9 hx hs; have G1 := Aside0.mk (hs.below HB.out LR.out); have G2 := Aside0.mk hx; clear hx hs))
      exact bodyPost_ret (results_arr (k := .u32) rfl _ _ gr 8 28 h0L 29 rfl G2.out Tryd.underlying29 (by kernel_rfl)) rfl ⟨rfl, G1.out⟩
theorem same_words (W : World) : (Op.equalIn 10000 29 (.agg (arrK .u32 h0L)) (.agg #[.int .u32 1779033703, .int .u32 3144134277, .int .u32 1013904242, .int .u32 2773480762, .int .u32 1359893119, .int .u32 2600822924, .int .u32 528734635, .int .u32 1541459225])).run Tryd.prog W = .ok true W := by kernel_rfl
set_option maxHeartbeats 8000000 in
set_option maxRecDepth 100000 in
theorem right_calls (w : World) : Calls Tryd.prog 9 #[] w fun e w' => e = .returned (.bool true) ∧ Below w.heap.size w w' := by
  have HB := Aside0.mk (Below.refl w.heap.size w)
  go_enter Tryd.func9, Tryd.ntmps9
  go_wp2_with (first
    | (go_at_call 16; with_reducible refine (salts_cells _).mono ?_; rintro e w1 ⟨ga, ca, rfl, hgl, hC, hb⟩; have n0 := Aside0.mk (below_step HB.out hb); clear HB hb; have HB := n0; have HA := Aside0.mk (And.intro hgl hC); clear n0 hgl hC)
    | (go_at_call 14; with_reducible refine (known_calls _).mono ?_; rintro e w2 ⟨gb, cb, rfl, hgl, hC, hb⟩; have n0 := Aside0.mk (below_step HB.out hb); have n1 := Aside0.mk (And.intro (Nat.lt_of_lt_of_le HA.out.1 hb.size) (fun i (hi : i < 64) => (hb.cell (p := ⟨ga, i, none⟩) HA.out.1).trans (HA.out.2 i hi))); clear HB HA hb; have HB := n0; have HA := n1; have HK := Aside0.mk (And.intro hgl hC); have HB2 := Aside0.mk (Below.refl w2.heap.size w2); clear n0 n1 hgl hC)
    | (go_at_call 17; with_reducible refine (begin_calls _).mono ?_; rintro e w3 ⟨rfl, hb⟩; have n0 := Aside0.mk (below_step HB.out hb); have n1 := Aside0.mk (below_step HB2.out hb); clear HB HB2 hb; have HB := n0; have HB2 := n1; clear n0 n1)
    | ((with_reducible refine gate_dst (N := 3) rfl ?_); refine arr_new ?hg (N := 3) ?hd z8 .u32 29 ?hr ?_; (case hd => rfl); (case hg => rfl); (case hr => first | (go_simp; done) | (go_simp; rfl)); intro gx eg w4 hx hb; have HX := Aside0.mk hx; have n0 := Aside0.mk (below_step HB.out hb); have n2 := Aside0.mk (below_step HB2.out hb); have LX := Aside0.mk (show w.heap.size ≤ gx by rw [eg]; exact HB.out.size); have LX2 := Aside0.mk (show w2.heap.size ≤ gx by rw [eg]; exact HB2.out.size); clear HB HB2 hx hb eg; have HB := n0; have HB2 := n2; clear n0 n2)
    | ((with_reducible refine gate_store (t := 29) (p := 3) (v := .tmp 7) rfl ?_); refine arr_store rfl rfl 29 (.tmp 3) (.tmp 7) rfl gx .u32 z8 h0L rfl rfl 29 HX.out (by kernel_rfl) rfl ?_; intro w5 hx hs; have n0 := Aside0.mk (hs.below HB.out LX.out); have n2 := Aside0.mk (hs.below HB2.out LX2.out); clear HB HB2 HX; have HX := Aside0.mk hx; have HB := n0; have HB2 := n2; clear n0 n2 hx hs))
  go_loopw [4] (fun i wr => ∃ j : Nat, j ≤ 64 ∧ i = .int .i64 j ∧ IsArr wr gx 29 .u32 h0L ∧ Below w.heap.size w wr ∧ Below w2.heap.size w2 wr) (fun i _ => 64 - (intOf i).toNat)
  case atStart => exact ⟨0, by omega, rfl, HX.out, HB.out, HB2.out⟩
  case round =>
    clear HX HB HB2
    obtain ⟨j, hj, rfl, hX, hB, hB2⟩ := hrel
    have HX := Aside0.mk hX; have HB := Aside0.mk hB; have HB2 := Aside0.mk hB2
    clear hX hB hB2
    by_cases hlt : j < 64
    · have q0 : decide ((j : Int) < 64) = true := decide_eq_true (by omega)
      have q1 : (0 : Int) ≤ j := by omega
      have q2 : (j : Int) < 64 := by omega
      obtain ⟨p, hp⟩ : ∃ p, ssL.getD j 0 = p := ⟨_, rfl⟩
      have hca : wr.cell? ⟨ga, j, none⟩ = some (.int .u32 p) := by rw [← hp]; exact (HB2.out.cell (p := ⟨ga, j, none⟩) HA.out.1).trans (HA.out.2 j hlt)
      have hcb : wr.cell? ⟨gb, j, none⟩ = some (.int .u32 p) := by rw [← hp]; exact (HB2.out.cell (p := ⟨gb, j, none⟩) HK.out.1).trans (HK.out.2 j hlt)
      have q3 : (p != p) = false := by simp
      clear hp
      go_wp2
      go_quiet (fail)
      all_goals have F2 := Aside0.mk (And.intro (HX.out.drewN nq) (And.intro (pw_below_drewN HB.out nq) (pw_below_drewN HB2.out nq)))
      go_wp2
      go_roundw
      case rel => exact ⟨j + 1, by omega, by go_num, F2.out.1, F2.out.2.1, F2.out.2.2⟩
      case measure => simp [intOf]; omega
    · have ej : j = 64 := by omega
      subst ej
      rw [show ((64 : Nat) : Int) = 64 from rfl]
      have hsw := same_words
      go_wp2_with ((with_reducible refine gate_dst (N := 21) rfl ?_); refine arr_load rfl 29 (.tmp 3) rfl gx 8 28 .u32 h0L rfl 29 HX.out Tryd.underlying29 (by kernel_rfl) ?_)
      go_ret
      exact ⟨rfl, HB.out⟩
end Go.Proofs.YtehmnbdeokjogaaDoor.Sha
