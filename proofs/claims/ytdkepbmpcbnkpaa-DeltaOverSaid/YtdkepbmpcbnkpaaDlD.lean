/- One more change at its place (slices.Insert), where there is no room, walked. -/
import Derived.Test.YtdkepbmpcbnkpaaDlC
namespace Go.Proofs.Ytdkepbmpcbnkpaa.Dl
open Go.Shelf Go.RowKit Go.Lib Go.Proofs.YtdkepbmpcbnkpaaW.PrintWords Go.Proofs.YtdkepbmpcbnkpaaW.PrintLast Go.Proofs.YtdkepbmpcbnkpaaW.PrintMore Go.Proofs.Ytdkepbmpcbnkpaa.XB Go.Proofs.Ytdkepbmpcbnkpaa.PDeltaPlays
set_option linter.unusedVariables false
set_option linter.unusedSimpArgs false
/-- no change -/
def zc : Value := .agg #[.string ⟨#[]⟩, .string ⟨#[]⟩, .bool false]
theorem zc_size (k : Nat) : (Builtin.zeroCells zc.cells k).size = k * 3 := by rw [size_zeroCells]; rfl
set_option maxHeartbeats 4000000 in
set_option maxRecDepth 100000 in
theorem insert_grow (W : World) (base g c : Nat) (ok : Nat → Prop) (hfresh : ∀ k, W.heap.size ≤ k → ok k) (xs : List S26) (hr : Kd.R k26 26 W base ok (.slice (some ⟨g, 0, none⟩) xs.length c) xs) (hl : xs.length < 1000) (i : Nat) (hi : i < xs.length) (hroom : c < xs.length + 1) (q : Nat) (x : S26) (hq : W.heap[q]? = some (.cells (c3 x).toArray 26 (0, 0))) (hb : base ≤ W.heap.size) :
    Calls Try.prog 22 #[.slice (some ⟨g, 0, none⟩) xs.length c, .int .i64 (i : Int), .slice (some ⟨q, 0, none⟩) 1 1] W fun e w' => ∃ v', e = .returned v' ∧ Kd.R k26 26 w' base ok v' (insC xs i x) ∧ Below W.heap.size W w' := by
  obtain ⟨inner, ho, hrep⟩ := open26 hr
  have hlen := hrep.1
  rcases ho.2 with ⟨_, h0⟩ | ⟨g', cap, cur, hv, hbg, hg, hnc, hcm, hsz, htk⟩
  · omega
  injection hv with e1 e2 e3
  injection e1 with e1
  injection e1 with e1
  subst e1 e3
  obtain ⟨n, hn⟩ : ∃ n, xs.length = n := ⟨_, rfl⟩
  rw [hn] at hlen hl hi hroom hnc htk ⊢
  have hcn : c = n := by omega
  subst hcn
  obtain ⟨i0, hi0, hz0, hzs, hzb⟩ := info_parts info26
  have hin : ∀ (j : Nat) (v : Value), inner[j]? = some v → W.cell? ⟨g, j, none⟩ = some v := by
    intro j v hj
    rw [blk_cell hg j]
    rw [← htk, List.getElem?_take] at hj
    split at hj
    · rw [← Array.getElem?_toList]; exact hj
    · cases hj
  have hvs : ∀ (j : Nat) (v : Value), (c3 x)[j]? = some v → W.cell? ⟨q, j, none⟩ = some v := by
    intro j v hj
    rw [blk_cell hq j, ← Array.getElem?_toList]; exact hj
  have ho1 := reps_ones hrep
  have hx1 := reps_ones (reps_one x)
  have hgw : g < W.heap.size := blk_lt hg
  have hqw : q < W.heap.size := blk_lt hq
  have hx3 : (c3 x).length = 3 := rfl
  have hold : (Builtin.firstCells i0.size i (.slice (some ⟨g, 0, none⟩) i c)).run Try.prog W.drew = .ok (inner.take (i * 3)).toArray W.drew := by
    rw [hzs]
    exact run_firstCells_some W.drew 3 i ⟨g, 0, none⟩ i c (inner.take (i * 3)) (by rw [List.length_take]; omega) (fun j v hj => by
      rw [add3, Nat.zero_add]
      rw [List.getElem?_take] at hj
      split at hj
      · exact hin j v hj
      · cases hj)
  have hkk : (c : Int) + 1 - (i : Int) = ((c + 1 - i : Nat) : Int) := by omega
  have hik : i + (c + 1 - i) = c + 1 := by omega
  have hrz : ∀ ty (kk : Int), kk = ((c + 1 - i : Nat) : Int) → (Builtin.append_ #[22, 3] ty #[.slice (some ⟨g, 0, none⟩) i c, .int .i64 kk]).run Try.prog W =
      .ok (.slice (some ⟨W.heap.size, 0, none⟩) (c + 1) (grownCap W (c + 1) c 26)) (W.drew.alloc (.cells ((inner.take (i * 3)).toArray ++ Builtin.zeroCells zc.cells (c + 1 - i) ++ Builtin.zeroCells zc.cells (grownCap W (c + 1) c 26 - (c + 1))) 26)) := fun ty kk hk => by
    have h := Lib.run_append_grow_zeros W 22 3 ty 26 i0 zc .i64 .i64 Try.underlying22 Try.underlying3 hi0 hz0 (some ⟨g, 0, none⟩) i c (inner.take (i * 3)) hold (c + 1 - i) (by omega) (by omega) (by omega) (by omega) (by rw [hzb]; omega) (by rw [hzb, hik]; exact growslice_fits (by omega) (by omega))
    rw [hik] at h
    rw [hk]
    exact h
  have hge := grownCap_ge W (c + 1) c 26
  have hle := grownCap_le_maxLen W (c + 1) c 26 (by unfold maxLen; omega)
  obtain ⟨G, hG⟩ : ∃ G, grownCap W (c + 1) c 26 = G := ⟨_, rfl⟩
  rw [hG] at hrz hge hle
  obtain ⟨ROW, hROW⟩ : ∃ ROW : Array Value, (inner.take (i * 3)).toArray ++ Builtin.zeroCells zc.cells (c + 1 - i) ++ Builtin.zeroCells zc.cells (G - (c + 1)) = ROW := ⟨_, rfl⟩
  rw [hROW] at hrz
  have hRs : ROW.size = G * 3 := by
    rw [← hROW, Array.size_append, Array.size_append, zc_size, zc_size, List.size_toArray, List.length_take, hlen, Nat.min_eq_left (by omega)]
    omega
  have hRt : ROW.toList.take (i * 3) = inner.take (i * 3) := by
    rw [← hROW, Array.toList_append, Array.toList_append, List.append_assoc, List.take_left' (by simp [hlen]; omega)]
  obtain ⟨N, hN⟩ : ∃ N, W.heap.size = N := ⟨_, rfl⟩
  obtain ⟨W1, hW1⟩ : ∃ W1, W1 = W.drew.alloc (.cells ROW 26) := ⟨_, rfl⟩
  rw [← hW1, hN] at hrz
  have hnew : W1.heap[N]? = some (.cells ROW 26 (0, 0)) := by rw [hW1, ← hN]; exact heap_alloc_new W.drew _
  have hB1 : Below W.heap.size W W1 := by rw [hW1]; exact below_alloc (below_drew1 (Below.refl _ _)) _
  have hdl : (inner.drop (i * 3)).length = (c - i) * 3 := by rw [List.length_drop, hlen, Nat.sub_mul]
  have hsome : ∀ k, k < G * 3 → (W1.cell? ⟨N, k, none⟩).isSome = true := fun k hk => by rw [blk_cell hnew k, Array.getElem?_eq_getElem (by omega)]; rfl
  have hfzN : ∀ k, W1.frozen? ⟨N, k, none⟩ = false := fun k => blk_frozen hnew k
  have hcpA : ∀ (V : World), (∀ a, V.cell? a = W1.cell? a) → (∀ a, V.frozen? a = W1.frozen? a) → ∀ ty dl dc, 1 ≤ dl → (Builtin.copy_ #[22, 22] ty #[.slice (some ⟨N, i * 3, none⟩) dl dc, .slice (some ⟨q, 0, none⟩) 1 1]).run Try.prog V = .ok (goInt 1) (V.setCells N (i * 3) (c3 x)) := fun V hVc hVf ty dl dc hdl1 =>
    run_copy_k V 22 22 ty 26 3 N (i * 3) dl dc ⟨q, 0, none⟩ 1 1 1 (c3 x) Try.underlying22 size26 (by simp only [Nat.min_def]; split <;> omega) rfl
      (fun j v hj => by rw [add3, Nat.zero_add, hVc]; exact pw_cell_below hB1 (hvs j v hj))
      (fun j hj => by rw [hVc]; exact hsome (i * 3 + j) (by omega)) (fun j hj => by rw [hVf]; exact hfzN _) hx1
  have hcpB : ∀ (V : World), (∀ a, V.cell? a = (W1.setCells N (i * 3) (c3 x)).cell? a) → (∀ a, V.frozen? a = (W1.setCells N (i * 3) (c3 x)).frozen? a) → ∀ ty dl sl dc sc, dl = c - i → sl = c - i → (Builtin.copy_ #[22, 22] ty #[.slice (some ⟨N, (i + 1) * 3, none⟩) dl dc, .slice (some ⟨g, i * 3, none⟩) sl sc]).run Try.prog V = .ok (goInt ((c - i : Nat) : Int)) (V.setCells N ((i + 1) * 3) (inner.drop (i * 3))) := fun V hVc hVf ty dl sl dc sc h1 h2 =>
    run_copy_k V 22 22 ty 26 3 N ((i + 1) * 3) dl dc ⟨g, i * 3, none⟩ sl sc (c - i) (inner.drop (i * 3)) Try.underlying22 size26 (by rw [h1, h2]; simp only [Nat.min_def]; split <;> omega) hdl
      (fun j v hj => by
        rw [add3, hVc, World.cell?_setCells_out _ _ _ _ _ (fun h _ => absurd h (by show g ≠ N; omega))]
        exact pw_cell_below hB1 (hin (i * 3 + j) v (by rwa [List.getElem?_drop] at hj)))
      (fun j hj => by rw [hVc]; exact isSome_setCells _ _ _ W1 (fun t ht => hsome (i * 3 + t) (by omega)) _ (hsome ((i + 1) * 3 + j) (by rw [hdl] at hj; omega)))
      (fun j hj => by rw [hVf, World.frozen?_setCells]; exact hfzN _) (fun v hv => ho1 v (List.mem_of_mem_drop hv))
  have g1 : (0 : Int) ≤ (i : Int) := by omega
  have g2 : (i : Int) ≤ (c : Int) := by omega
  have g3 : ¬ ((i : Int) = (c : Int)) := by omega
  have g4 : ((i : Int) == (c : Int)) = false := beq_eq_false_iff_ne.mpr g3
  have g5 : decide ((c : Int) < (c : Int) + 1) = true := decide_eq_true (by omega)
  have g7 : (0 : Int) ≤ (i : Int) + 1 := by omega
  have g8 : (i : Int) + 1 ≤ (c : Int) + 1 := by omega
  have g9 : (i : Int) ≤ (c : Int) + 1 := by omega
  have g10 : ¬ c = i := by omega
  have g12 : ((i : Int) + 1).toNat = i + 1 := by omega
  have g13 : ((c : Int) + 1).toNat = c + 1 := by omega
  have g15 : IntKind.i64.wrap ((i : Int) + 1) = (i : Int) + 1 := by rw [IntKind.wrap_i64]; omega
  have g16 : ¬ G = i := by omega
  have g17 : ¬ G = i + 1 := by omega
  have g18 : (i : Int) ≤ (G : Int) := by omega
  have HIN := Aside0.mk (And.intro hlen (And.intro hdl hrep))
  have HG := Aside0.mk (And.intro hnew (And.intro hRs (And.intro hRt (And.intro hle hge))))
  have HBB := Aside0.mk hB1
  have HBS := Aside0.mk hb
  have HNN := Aside0.mk hN
  have HF := Aside0.mk hfresh
  clear hfresh hr ho hrep hlen hin hvs ho1 hx1 hdl hq hW1 hnew hRs hRt hROW hsome hfzN hB1 hb hg htk hsz hnc hle hge hold hN hG hi0 hz0 hzs hzb hkk hik
  go_enter Try.func22, Try.ntmps22
  go_wp2_with (first
    | (at_builtin; refine Lib.wpList_append_run _ rfl _ _ _ _ rfl _ _ rfl rfl _ _ (hrz _ _ (by omega)) ?_)
    | ((with_reducible refine gate_builtin (b := .copy) (xs := #[.tmp 43, .tmp 44]) rfl ?_); refine wpList_copy_runI _ rfl _ _ 22 22 rfl _ _ rfl rfl (hcpA _ (fun _ => rfl) (fun _ => rfl) _ (c + 1 - i) _ (by omega)) ?_))
  obtain ⟨W2, hW2⟩ : ∃ W2, W1.setCells N (i * 3) (c3 x) = W2 := ⟨_, rfl⟩
  rw [hW2] at hcpB ⊢
  have HW2 := Aside0.mk hW2
  clear hW2 hcpA hrz
  have hcpC := fun ty dc sc => hcpB W2.drew (fun _ => rfl) (fun _ => rfl) ty (c - i) (c - i) dc sc rfl rfl
  clear hcpB
  go_region_law (refine step_copy_runI rfl _ _ 22 22 rfl _ _ (by simp [Act.eval, Act.put]) (by simp [Act.eval, Act.put]) (hcpC _ _ _) ?_)
  go_wp2
  go_ret
  have hW2 := HW2.out
  obtain ⟨hlen, hdl, hrep⟩ := HIN.out
  obtain ⟨hnew, hRs, hRt, hle, hge⟩ := HG.out
  have hcur : ROW.toList.length = G * 3 := hRs
  obtain ⟨c1, h1, h2, h3⟩ := setCells_row (c3 x) (i * 3) W1 ROW hnew (by rw [hRs]; omega)
  rw [hW2] at h1
  obtain ⟨c2, h4, h5, h6⟩ := setCells_row (inner.drop (i * 3)) ((i + 1) * 3) W2.drew c1 (blk_drew h1) (by rw [hdl, h2, hRs]; omega)
  have hb2 : Below W.heap.size W W2 := by rw [← hW2]; exact setCells_below HBB.out (Nat.le_of_eq HNN.out) _ _
  have hc1 : c1.toList.take ((i + 1) * 3) = inner.take (i * 3) ++ c3 x := by
    rw [h3, hRt, List.take_left' (by rw [List.length_append, List.length_take, hlen, Nat.min_eq_left (by omega)]; omega)]
  refine ⟨_, rfl, row26 (inner := inner.take (i * 3) ++ c3 x ++ inner.drop (i * 3)) h4 (by rw [← HNN.out]; exact HBS.out) (HF.out N (Nat.le_of_eq HNN.out)) (by rw [insC_length _ _ _ (by omega)]; omega) hge hle (by rw [h5, h2, hRs]) ?_ (reps_ins hrep i (by omega) x), setCells_below (below_drew1 hb2) (Nat.le_of_eq HNN.out) _ _⟩
  rw [h6, hc1, List.take_left' (by rw [List.length_append, List.length_append, List.length_take, hlen, hdl, Nat.min_eq_left (by omega)]; omega)]
/-- one more change at a place: all roads -/
theorem insert_calls (W : World) (base : Nat) (ok : Nat → Prop) (hfresh : ∀ k, W.heap.size ≤ k → ok k) (A : Option Addr) (c : Nat) (xs : List S26) (hr : Kd.R k26 26 W base ok (.slice A xs.length c) xs) (hl : xs.length < 1000) (i : Nat) (hi : i ≤ xs.length) (q : Nat) (x : S26) (hq : W.heap[q]? = some (.cells (c3 x).toArray 26 (0, 0))) (hqn : (Value.slice A xs.length c).ownBlock ≠ some q) (hb : base ≤ W.heap.size) :
    Calls Try.prog 22 #[.slice A xs.length c, .int .i64 (i : Int), .slice (some ⟨q, 0, none⟩) 1 1] W fun e w' => ∃ v', e = .returned v' ∧ Kd.R k26 26 w' base ok v' (insC xs i x) ∧ Below base W w' ∧ W.grownBy w' (Value.slice A xs.length c).ownBlock := by
  rcases Nat.lt_or_eq_of_le hi with hlt | rfl
  · have hA : ∃ g, A = some ⟨g, 0, none⟩ := by
      obtain ⟨inner, ho, hrep⟩ := open26 hr
      rcases ho.2 with ⟨_, h0⟩ | ⟨g', cap, cur, hv, _⟩
      · omega
      · injection hv with e1 _ _
        exact ⟨g', e1⟩
    obtain ⟨g, rfl⟩ := hA
    by_cases hroom : xs.length + 1 ≤ c
    · exact insert_shift W base g c ok xs hr hl i hlt hroom q x hq (fun e => hqn (by rw [e]; rfl))
    · refine (insert_grow W base g c ok hfresh xs hr hl i hlt (by omega) q x hq hb).mono ?_
      rintro e w' ⟨v', rfl, hR, hB⟩
      exact ⟨v', rfl, hR, hB.mono hb, ⟨hB.os, hB.tape, hB.output, hB.size, fun k hk _ => hB.block k hk⟩⟩
  · refine (insert_end W base ok hfresh A c xs hr hl q x hq hb).mono ?_
    rintro e w' ⟨v', rfl, hR, hB, hG⟩
    refine ⟨v', rfl, ?_, hB, hG⟩
    unfold insC
    rw [List.take_of_length_le (Nat.le_refl _), List.drop_of_length_le (Nat.le_refl _), List.append_nil]
    exact hR
end Go.Proofs.Ytdkepbmpcbnkpaa.Dl
