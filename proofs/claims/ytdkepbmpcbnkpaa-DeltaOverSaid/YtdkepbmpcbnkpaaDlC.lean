/- One more change at its place (slices.Insert), ahead of others, walked. -/
import Derived.Test.YtdkepbmpcbnkpaaDlB
import Derived.Deep.RegionLaw
namespace Go.Proofs.Ytdkepbmpcbnkpaa.Dl
open Go.Shelf Go.RowKit Go.Lib Go.Proofs.YtdkepbmpcbnkpaaW.PrintWords Go.Proofs.YtdkepbmpcbnkpaaW.PrintLast Go.Proofs.YtdkepbmpcbnkpaaW.PrintMore Go.Proofs.Ytdkepbmpcbnkpaa.XB Go.Proofs.Ytdkepbmpcbnkpaa.PDeltaPlays
set_option linter.unusedVariables false
set_option linter.unusedSimpArgs false
theorem setCells_below {B g : Nat} {w W : World} (h : Below B w W) (hg : B ≤ g) (o : Nat) (vs : List Value) : Below B w (W.setCells g o vs) := by
  obtain ⟨s1, s2, s3, s4⟩ := setCells_same g vs o W
  exact h.trans ⟨s1, s2, s3, by rw [s4]; exact Nat.le_refl _, fun k hk => setCells_far vs o k (by omega)⟩
theorem shift_plain {α : Type} (T D R X : List α) (a b n : Nat) (hT : T.length = b) (hab : a + X.length = b) (hn : b + D.length = n) : ((T ++ D ++ R).take a ++ X ++ (T ++ D ++ R).drop b).take n = T.take a ++ X ++ D := by
  have e1 : (T ++ D ++ R).take a = T.take a := by rw [List.append_assoc, List.take_append_of_le_length (by omega)]
  have e2 : (T ++ D ++ R).drop b = D ++ R := by rw [List.append_assoc, List.drop_left' hT]
  rw [e1, e2, ← List.append_assoc, List.take_left' (by simp; omega)]
set_option maxHeartbeats 4000000 in
set_option maxRecDepth 100000 in
theorem insert_shift (W : World) (base g c : Nat) (ok : Nat → Prop) (xs : List S26) (hr : Kd.R k26 26 W base ok (.slice (some ⟨g, 0, none⟩) xs.length c) xs) (hl : xs.length < 1000) (i : Nat) (hi : i < xs.length) (hroom : xs.length + 1 ≤ c) (q : Nat) (x : S26) (hq : W.heap[q]? = some (.cells (c3 x).toArray 26 (0, 0))) (hqg : q ≠ g) :
    Calls Try.prog 22 #[.slice (some ⟨g, 0, none⟩) xs.length c, .int .i64 (i : Int), .slice (some ⟨q, 0, none⟩) 1 1] W fun e w' => ∃ v', e = .returned v' ∧ Kd.R k26 26 w' base ok v' (insC xs i x) ∧ Below base W w' ∧ W.grownBy w' (some g) := by
  obtain ⟨inner, ho, hrep⟩ := open26 hr
  have hlen := hrep.1
  rcases ho.2 with ⟨_, h0⟩ | ⟨g', cap, cur, hv, hbg, hg, hnc, hcm, hsz, htk⟩
  · omega
  injection hv with e1 e2 e3
  injection e1 with e1
  injection e1 with e1
  subst e1 e3
  have hcur : cur.toList.length = c * 3 := hsz
  obtain ⟨n, hn⟩ : ∃ n, xs.length = n := ⟨_, rfl⟩
  rw [hn] at hlen hl hi hroom hnc htk ⊢
  have hc63 : c ≤ 9223372036854775807 := hcm
  have hin : ∀ (j : Nat) (v : Value), inner[j]? = some v → W.cell? ⟨g, j, none⟩ = some v := by
    intro j v hj
    rw [blk_cell hg j]
    rw [← htk, List.getElem?_take] at hj
    split at hj
    · rw [← Array.getElem?_toList]; exact hj
    · cases hj
  have hspare : ∀ j, j < c * 3 → (W.cell? ⟨g, j, none⟩).isSome = true := by
    intro j hj
    rw [blk_cell hg j, Array.getElem?_eq_getElem (by omega)]; rfl
  have hfz : ∀ j, W.frozen? ⟨g, j, none⟩ = false := fun j => blk_frozen hg j
  have hvs : ∀ (j : Nat) (v : Value), (c3 x)[j]? = some v → W.cell? ⟨q, j, none⟩ = some v := by
    intro j v hj
    rw [blk_cell hq j, ← Array.getElem?_toList]; exact hj
  have ho1 := reps_ones hrep
  have hx1 := reps_ones (reps_one x)
  have hov : ∀ lb cb, (callFunc 26 #[.slice (some ⟨q, 0, none⟩) 1 1, .slice (some ⟨g, (i + 1) * 3, none⟩) lb cb]).run Try.prog W = .ok (.value (.bool false)) W := fun lb cb => by
    rw [run_callFunc_extern Try.func26 (by kernel_rfl) (by kernel_rfl) (by kernel_rfl) (e := Extern.SlicesOverlaps.overlaps #[22, 22] #[4]) (by kernel_rfl),
      Lib.run_overlaps_apart W 22 4 26 Try.underlying22 3 Try.sizeOf26 ⟨q, 0, none⟩ ⟨g, (i + 1) * 3, none⟩ 1 1 lb cb hqg 26 26 3 cur.size (by simp [World.shape?, hq, c3]) (by simp [World.shape?, hg]) (by omega) (blk_frozen hq 0) (blk_frozen hq 3)]
    rfl
  have hdl : (inner.drop (i * 3)).length = (n - i) * 3 := by rw [List.length_drop, hlen, Nat.sub_mul]
  have hcp1 : ∀ ty dl sl dc sc, dl = n - i → sl = n + 1 - i → (Builtin.copy_ #[22, 22] ty #[.slice (some ⟨g, (i + 1) * 3, none⟩) dl dc, .slice (some ⟨g, i * 3, none⟩) sl sc]).run Try.prog W.drew = .ok (goInt ((n - i : Nat) : Int)) (W.drew.setCells g ((i + 1) * 3) (inner.drop (i * 3))) := fun ty dl sl dc sc hdl' hsl' =>
    run_copy_k W.drew 22 22 ty 26 3 g ((i + 1) * 3) dl dc ⟨g, i * 3, none⟩ sl sc (n - i) (inner.drop (i * 3)) Try.underlying22 size26 (by rw [hdl', hsl']; simp only [Nat.min_def]; split <;> omega) hdl
      (fun j v hj => by rw [add3]; exact hin (i * 3 + j) v (by rwa [List.getElem?_drop] at hj))
      (fun j hj => hspare _ (by rw [hdl] at hj; omega)) (fun j hj => hfz _) (fun v hv => ho1 v (List.mem_of_mem_drop hv))
  obtain ⟨W1, hW1⟩ : ∃ W1, W1 = W.drew.setCells g ((i + 1) * 3) (inner.drop (i * 3)) := ⟨_, rfl⟩
  have hsp1 : ∀ k, k < c * 3 → (W1.cell? ⟨g, k, none⟩).isSome = true := fun k hk => by
    rw [hW1]
    exact isSome_setCells g _ _ W.drew (fun j hj => hspare ((i + 1) * 3 + j) (by rw [hdl] at hj; omega)) _ (hspare k hk)
  have hcp2 : ∀ (V : World), (∀ a, V.cell? a = W1.cell? a) → (∀ a, V.frozen? a = W1.frozen? a) → ∀ ty dc, (Builtin.copy_ #[22, 22] ty #[.slice (some ⟨g, i * 3, none⟩) (n + 1 - i) dc, .slice (some ⟨q, 0, none⟩) 1 1]).run Try.prog V = .ok (goInt 1) (V.setCells g (i * 3) (c3 x)) := fun V hVc hVf ty dc =>
    run_copy_k V 22 22 ty 26 3 g (i * 3) (n + 1 - i) dc ⟨q, 0, none⟩ 1 1 1 (c3 x) Try.underlying22 size26 (by simp only [Nat.min_def]; split <;> omega) rfl
      (fun j v hj => by
        rw [add3, Nat.zero_add, hVc, hW1, World.cell?_setCells_out g _ _ _ _ (fun h _ => absurd h hqg)]
        exact hvs j v hj)
      (fun j hj => by rw [hVc]; exact hsp1 _ (by have : (c3 x).length = 3 := rfl; omega)) (fun j hj => by rw [hVf, hW1, World.frozen?_setCells]; exact hfz _) hx1
  rw [← hW1] at hcp1
  have g1 : (0 : Int) ≤ (i : Int) := by omega
  have g2 : (i : Int) ≤ (n : Int) := by omega
  have g3 : ¬ ((i : Int) = (n : Int)) := by omega
  have g4 : ((i : Int) == (n : Int)) = false := beq_eq_false_iff_ne.mpr g3
  have g5 : decide ((c : Int) < (n : Int) + 1) = false := decide_eq_false (by omega)
  have g6 : (n : Int) + 1 ≤ (c : Int) := by omega
  have g7 : (0 : Int) ≤ (i : Int) + 1 := by omega
  have g8 : (i : Int) + 1 ≤ (n : Int) + 1 := by omega
  have g9 : (i : Int) ≤ (n : Int) + 1 := by omega
  have g10 : ¬ c = i := by omega
  have g11 : ¬ c = i + 1 := by omega
  have g12 : ((i : Int) + 1).toNat = i + 1 := by omega
  have g13 : ((n : Int) + 1).toNat = n + 1 := by omega
  have g14 : (i : Int) ≤ (c : Int) := by omega
  have g15 : IntKind.i64.wrap ((i : Int) + 1) = (i : Int) + 1 := by rw [IntKind.wrap_i64]; omega
  have HQ := Aside0.mk hW1
  have HOK := Aside0.mk (show ok g from hr.1 g rfl)
  have HIN := Aside0.mk (And.intro hlen (And.intro hdl hrep))
  have HG := Aside0.mk (And.intro hg (And.intro htk (And.intro hsz (And.intro hbg hcm))))
  clear hr ho hrep hlen hin hspare hfz hvs ho1 hx1 hdl hsp1 hg htk hnc hq hW1
  go_enter Try.func22, Try.ntmps22
  go_wp2_with (simp only [hov])
  go_region_law (refine step_copy_runI rfl _ _ 22 22 rfl _ _ (by simp [Act.eval, Act.put]) (by simp [Act.eval, Act.put]) (hcp1 _ _ _ _ _ (by omega) (by omega)) ?_)
  go_wp2_with (at_builtin; refine wpList_copy_runI _ rfl _ _ 22 22 rfl _ _ rfl rfl (hcp2 _ (fun _ => rfl) (fun _ => rfl) _ _) ?_)
  go_ret
  have hW := HQ.out
  obtain ⟨hlen, hdl, hrep⟩ := HIN.out
  obtain ⟨hg, htk, hsz, hbg, hcm⟩ := HG.out
  have hb1 : Below base W W1 := by rw [hW]; exact setCells_below (below_drew1 (Below.refl _ _)) hbg _ _
  have hcur : cur.toList.length = c * 3 := hsz
  obtain ⟨c1, h1, h2, h3⟩ := setCells_row (inner.drop (i * 3)) ((i + 1) * 3) W.drew cur (blk_drew hg) (by rw [hdl, hsz]; omega)
  rw [← hW] at h1
  obtain ⟨c2, h4, h5, h6⟩ := setCells_row (c3 x) (i * 3) W1 c1 h1 (by have : (c3 x).length = 3 := rfl; rw [h2, hsz]; omega)
  have hx3 : (c3 x).length = 3 := rfl
  refine ⟨_, rfl, row26 (inner := inner.take (i * 3) ++ c3 x ++ inner.drop (i * 3)) h4 hbg HOK.out (by rw [insC_length _ _ _ (by omega)]; omega) hroom hcm (by rw [h5, h2, hsz]) ?_ (reps_ins hrep i (by omega) x), setCells_below hb1 hbg _ _, ?_⟩
  · have et : cur.toList.take (i * 3) = inner.take (i * 3) := by rw [← htk, List.take_take, Nat.min_eq_left (by omega)]
    rw [h6, h3, hx3, show i * 3 + 3 = (i + 1) * 3 by omega]
    refine (shift_plain (cur.toList.take ((i + 1) * 3)) (inner.drop (i * 3)) _ (c3 x) (i * 3) ((i + 1) * 3) ((n + 1) * 3) (by rw [List.length_take]; omega) (by omega) (by rw [hdl]; omega)).trans ?_
    rw [List.take_take, Nat.min_eq_left (by omega), et]
  · obtain ⟨s1, s2, s3, s4⟩ := setCells_same g (c3 x) (i * 3) W1
    obtain ⟨r1, r2, r3, r4⟩ := setCells_same g (inner.drop (i * 3)) ((i + 1) * 3) W.drew
    rw [← hW] at r1 r2 r3 r4
    exact ⟨s1.trans r1, s2.trans r2, s3.trans r3, by rw [s4, r4]; exact Nat.le_refl _, fun k _ hk => (setCells_far _ _ k (fun e => hk (by rw [e]))).trans (by rw [hW]; exact setCells_far _ _ k (fun e => hk (by rw [e])))⟩
end Go.Proofs.Ytdkepbmpcbnkpaa.Dl
