/- One more in a rising list of whom a thing is held by (slices.Insert, slices.BinarySearch), by the shelf's contracts. -/
import Derived.Test.YtonbonailghjjaaLkE
import Derived.Test.YtonbonailghjjaaLib
namespace Go.Proofs.Ytonbonailghjjaa.Lk
open Go.RowKit Go.Proofs.YtonbonailghjjaaW.PrintWords Go.Proofs.YtonbonailghjjaaW.PrintLast Go.Proofs.YtonbonailghjjaaW.PrintMore Go.Proofs.Ytonbonailghjjaa.XB Go.Proofs.Ytonbonailghjjaa.PLockMost
set_option linter.unusedVariables false
set_option linter.unusedSimpArgs false
/-- one more, at a place -/
def insL (ws : List Int) (i : Nat) (x : Int) : List Int := ws.take i ++ x :: ws.drop i
theorem insL_length (ws : List Int) (i : Nat) (x : Int) (h : i ≤ ws.length) : (insL ws i x).length = ws.length + 1 := by
  simp [insL, Nat.min_eq_left h]; omega
theorem ints_row {W : World} {base g n cap : Nat} {ok : Nat → Prop} {cur : Array Value} {ws : List Int} (hg : W.heap[g]? = some (.cells cur 3 (0, 0))) (hb : base ≤ g) (ho : ok g) (hn : n = ws.length) (hc : n ≤ cap) (hm : cap ≤ maxLen) (hs : cur.size = cap) (ht : cur.toList.take n = encs (Value.int .i64) ws) : Kd.R (Kd.int .i64) 3 W base ok (.slice (some ⟨g, 0, none⟩) n cap) ws := by
  subst hn
  refine Kd.R_of_own ⟨by rw [encs_length, Nat.mul_one], .inr ⟨g, cap, cur, rfl, hb, hg, hc, hm, by rw [Nat.mul_one]; exact hs, by rw [Nat.mul_one]; exact ht⟩⟩ fun k hk => ?_
  have e : g = k := by simpa [Value.ownBlock] using hk
  rw [← e]; exact ho
theorem below_setCells {B g : Nat} {w W : World} (h : Below B w W) (hg : B ≤ g) (o : Nat) (vs : List Value) : Below B w (W.setCells g o vs) := by
  obtain ⟨s1, s2, s3, s4⟩ := setCells_same g vs o W
  exact h.trans ⟨s1, s2, s3, by rw [s4]; exact Nat.le_refl _, fun k hk => setCells_far vs o k (by omega)⟩
theorem encs_one (x : Int) : ∀ v ∈ [Value.int .i64 x], v.oneCell' = true := by
  intro v hv
  rw [List.mem_singleton] at hv
  subst hv; rfl
theorem encs_ones (ws : List Int) : ∀ v ∈ encs (Value.int .i64) ws, v.oneCell' = true := by
  intro v hv
  obtain ⟨x, _, rfl⟩ := List.mem_map.mp hv
  rfl
theorem encs_insL (ws : List Int) (i : Nat) (x : Int) : encs (Value.int .i64) (insL ws i x) = (encs (Value.int .i64) ws).take i ++ Value.int .i64 x :: (encs (Value.int .i64) ws).drop i := by
  simp [encs, insL, List.map_take, List.map_drop]
theorem shift_plain {α : Type} (T D R : List α) (i n : Nat) (x : α) (hT : T.length = i + 1) (hD : D.length = n - i) (hi : i ≤ n) : ((T ++ D ++ R).take i ++ [x] ++ (T ++ D ++ R).drop (i + 1)).take (n + 1) = T.take i ++ x :: D := by
  have e1 : (T ++ D ++ R).take i = T.take i := by rw [List.append_assoc, List.take_append_of_le_length (by omega)]
  have e2 : (T ++ D ++ R).drop (i + 1) = D ++ R := by rw [List.append_assoc, List.drop_left' hT]
  rw [e1, e2, ← List.append_assoc, List.take_left' (by simp [hD]; omega)]
  simp
theorem insert_calls (W : World) (base : Nat) (A : Option Addr) (c : Nat) (ws : List Int) (hr : Kd.R (Kd.int .i64) 3 W base (fun _ => True) (.slice A ws.length c) ws) (hne : ws ≠ []) (hl : ws.length < 1000) (i : Nat) (hi : i ≤ ws.length) (q : Nat) (x : Int) (hq : W.heap[q]? = some (.cells #[.int .i64 x] 3 (0, 0))) (hqn : (Value.slice A ws.length c).ownBlock ≠ some q) (hb : base ≤ W.heap.size) :
    Calls Try.prog 21 #[.slice A ws.length c, .int .i64 (i : Int), .slice (some ⟨q, 0, none⟩) 1 1] W fun e w' => ∃ v', e = .returned v' ∧ Kd.R (Kd.int .i64) 3 w' base (fun _ => True) v' (insL ws i x) ∧ Below base W w' := by
  have ho := Kd.own_of_R hr
  have hpos : 0 < ws.length := List.length_pos_iff.mpr hne
  rcases ho.2 with ⟨_, h0⟩ | ⟨g, cap, cur, hv, hbg, hg, hnc, hcm, hsz, htk⟩
  · omega
  injection hv with e1 e2 e3
  subst e1 e3
  rw [Nat.mul_one] at hsz htk
  have hgq : g ≠ q := fun e => hqn (by rw [e]; rfl)
  have hc63 : c ≤ 9223372036854775807 := hcm
  have hcl : (encs (Value.int .i64) ws).length = ws.length := encs_length ws
  have hcs : ∀ (j : Nat) (v : Value), (encs (Value.int .i64) ws)[j]? = some v → W.cell? ⟨g, 0 + j, none⟩ = some v := by
    intro j v hj
    rw [Nat.zero_add, blk_cell hg j]
    rw [← htk, List.getElem?_take] at hj
    split at hj
    · rw [← Array.getElem?_toList]; exact hj
    · cases hj
  have hvs : ∀ (j : Nat) (v : Value), [Value.int .i64 x][j]? = some v → W.cell? ⟨q, 0 + j, none⟩ = some v := by
    intro j v hj
    rw [Nat.zero_add, blk_cell hq j, ← Array.getElem?_toList]; exact hj
  have hgcell : ∀ j, j < c → (W.cell? ⟨g, j, none⟩).isSome = true := by
    intro j hj
    rw [blk_cell hg j, Array.getElem?_eq_getElem (by omega)]; rfl
  have hgl : g < W.heap.size := blk_lt hg
  by_cases hroom : ws.length + 1 ≤ c
  · by_cases hin : i < ws.length
    · refine (Any2.slices_Insert_int_shift Try.laysNm221 g 0 ws.length c i q 0 1 1 (encs (Value.int .i64) ws) [.int .i64 x] W hin (by decide) hroom hc63 (Ne.symm hgq) hcl rfl hcs (fun j hj => by rw [Nat.zero_add]; exact hgcell j (by omega)) (fun j hj => blk_frozen hg _) hvs (encs_ones ws) (encs_one x) 3 3 1 cur.size (by simp [World.shape?, hq]) (by simp [World.shape?, hg]) (by omega) (blk_frozen hq 0) (blk_frozen hq 1)).mono ?_
      rintro e w' ⟨rfl, rfl⟩
      obtain ⟨c1, h1, h2, h3⟩ := setCells_row ((encs (Value.int .i64) ws).drop i) (0 + (i + 1)) W.drew cur (blk_drew hg) (by rw [List.length_drop, hcl, hsz]; omega)
      obtain ⟨c2, h4, h5, h6⟩ := setCells_row [Value.int .i64 x] (0 + i) _ c1 h1 (by rw [h2, hsz]; simp; omega)
      refine ⟨_, rfl, ints_row h4 hbg trivial (insL_length ws i x hi).symm hroom hcm (by rw [h5, h2, hsz]) ?_, below_setCells (below_setCells (below_drew1 (Below.refl _ _)) hbg _ _) hbg _ _⟩
      have hd : ((encs (Value.int .i64) ws).drop i).length = ws.length - i := by rw [List.length_drop, hcl]
      rw [h6, h3, encs_insL, Nat.zero_add, Nat.zero_add]
      have hcur : cur.toList.length = c := hsz
      refine (shift_plain _ _ _ i ws.length _ (by rw [List.length_take]; omega) hd hi).trans ?_
      rw [List.take_take, Nat.min_eq_left (by omega)]
      congr 1
      rw [← htk, List.take_take, Nat.min_eq_left hi]
    · have hin' : i = ws.length := by omega
      subst hin'
      refine (Any2.slices_Insert_int_end_room Try.laysNm221 g 0 ws.length c q 0 1 1 [.int .i64 x] W (by decide) hroom hc63 rfl (fun j hj => hgcell _ (by omega)) (fun j hj => blk_frozen hg _) hvs (encs_one x)).mono ?_
      rintro e w' ⟨rfl, rfl⟩
      obtain ⟨c2, h4, h5, h6⟩ := setCells_row [Value.int .i64 x] (0 + ws.length) W cur hg (by rw [hsz]; simp; omega)
      refine ⟨_, rfl, ints_row h4 hbg trivial (insL_length ws _ x hi).symm hroom hcm (by rw [h5, hsz]) ?_, below_setCells (Below.refl _ _) hbg _ _⟩
      have hcur : cur.toList.length = c := hsz
      rw [h6, encs_insL, Nat.zero_add, htk, List.take_append_of_le_length (by rw [List.length_append, hcl]; exact Nat.le_refl _), List.take_of_length_le (by rw [List.length_append, hcl]; exact Nat.le_refl _), List.take_of_length_le (by rw [hcl]; exact Nat.le_refl _), List.drop_of_length_le (by rw [hcl]; exact Nat.le_refl _)]
  · have hroom' : c < ws.length + 1 := by omega
    have hge := grownCap_ge W (ws.length + 1) c 3
    have hle := grownCap_le_maxLen W (ws.length + 1) c 3 (by unfold maxLen; omega)
    by_cases hin : i < ws.length
    · refine (Any2.slices_Insert_int_grow Try.laysNm221 g 0 ws.length c i q 0 1 1 (encs (Value.int .i64) ws) [.int .i64 x] W hin (by decide) hnc hroom' (by omega) hcl rfl hcs hvs (encs_ones ws) (encs_one x)).mono ?_
      rintro e w' ⟨rfl, rfl⟩
      generalize hG : grownCap W (ws.length + 1) c 3 = G at hge hle
      have hGr : grownCap W (ws.length + 1) c (Try.laysNm221_ren.t 3) = G := hG
      rw [hGr]
      have hz : ∀ k, (Builtin.zeroCells (Value.int .i64 0).cells k).toList.length = k := by
        intro k; rw [Array.length_toList, size_zeroCells]; exact Nat.mul_one k
      have hnew := heap_alloc_new W (.cells (((encs (Value.int .i64) ws).take i).toArray ++ Builtin.zeroCells (Value.int .i64 0).cells (ws.length + 1 - i) ++ Builtin.zeroCells (Value.int .i64 0).cells (G - (ws.length + 1))) 3)
      obtain ⟨L0, hL0⟩ : ∃ L0, ((encs (Value.int .i64) ws).take i).toArray ++ Builtin.zeroCells (Value.int .i64 0).cells (ws.length + 1 - i) ++ Builtin.zeroCells (Value.int .i64 0).cells (G - (ws.length + 1)) = L0 := ⟨_, rfl⟩
      have hLs : L0.size = G := by
        rw [← hL0]; simp only [Array.size_append, size_zeroCells, List.size_toArray, List.length_take, hcl]
        show min i ws.length + (ws.length + 1 - i) * 1 + (G - (ws.length + 1)) * 1 = G
        rw [Nat.min_eq_left hi]; omega
      have hLt : L0.toList.take i = (encs (Value.int .i64) ws).take i := by
        rw [← hL0]
        simp only [Array.toList_append]
        rw [List.append_assoc, List.take_append_of_le_length (by simp [hcl]; omega), List.take_of_length_le (by simp; omega)]
      have hren : Try.laysNm221_ren.t 3 = 3 := rfl
      rw [hren, hL0]
      rw [hL0] at hnew
      obtain ⟨c1, h1, h2, h3⟩ := setCells_row [Value.int .i64 x] i (W.alloc (.cells L0 3)).drew L0 (blk_drew hnew) (by rw [hLs]; simp; omega)
      obtain ⟨c2, h4, h5, h6⟩ := setCells_row ((encs (Value.int .i64) ws).drop i) (i + 1) _ c1 (blk_drew h1) (by rw [List.length_drop, hcl, h2, hLs]; omega)
      refine ⟨_, rfl, ints_row h4 hb trivial (insL_length ws i x hi).symm hge hle (by rw [h5, h2, hLs]) ?_, below_setCells (below_drew1 (below_setCells (below_drew1 (Below.alloc (Below.refl _ _) hb _)) hb _ _)) hb _ _⟩
      have hLl : L0.toList.length = G := hLs
      have hd : ((encs (Value.int .i64) ws).drop i).length = ws.length - i := by rw [List.length_drop, hcl]
      rw [h6, h3, encs_insL, hLt]
      have ht : ((encs (Value.int .i64) ws).take i).length = i := by rw [List.length_take, hcl, Nat.min_eq_left hi]
      generalize (encs (Value.int .i64) ws).drop i = D at hd ⊢
      generalize (encs (Value.int .i64) ws).take i = T at ht ⊢
      rw [List.take_append_of_le_length (l₁ := T ++ [Value.int .i64 x]) (by simp [ht]), List.take_of_length_le (l := T ++ [Value.int .i64 x]) (by simp [ht]), List.take_append_of_le_length (by simp [ht, hd]; omega), List.take_of_length_le (by simp [ht, hd]; omega)]
      simp
    · have hin' : i = ws.length := by omega
      subst hin'
      refine (Any2.slices_Insert_int_end_grow Try.laysNm221 (some ⟨g, 0, none⟩) ws.length c q 0 1 1 (encs (Value.int .i64) ws) [.int .i64 x] W (by decide) hnc hroom' (by omega) hcl rfl (fun h => by cases h) (fun a ha j v hj => by injection ha with ha; subst ha; have := hcs j v hj; rw [Nat.zero_add] at this; rw [add_plain]; exact this) hvs (encs_one x)).mono ?_
      rintro e w' ⟨rfl, rfl⟩
      generalize hG : grownCap W (ws.length + 1) c 3 = G at hge hle
      have hGr : grownCap W (ws.length + 1) c (Try.laysNm221_ren.t 3) = G := hG
      have hren : Try.laysNm221_ren.t 3 = 3 := rfl
      rw [hGr, hren]
      refine ⟨_, rfl, ints_row (heap_alloc_new W.drew _) hb trivial (insL_length ws _ x hi).symm hge hle ?_ ?_, Below.alloc (below_drew1 (Below.refl _ _)) hb _⟩
      · simp only [Array.size_append, size_zeroCells, List.size_toArray, List.length_append, hcl]
        show ws.length + 1 + (G - (ws.length + 1)) * 1 = G
        omega
      · rw [encs_insL, List.drop_of_length_le (by rw [hcl]; exact Nat.le_refl _)]
        simp only [Array.toList_append]
        rw [List.take_left' (by simp [hcl]), List.take_of_length_le (by rw [hcl]; exact Nat.le_refl _)]
/-- Where one stands, or would stand, in a rising list. -/
theorem search_calls (W : World) (g c : Nat) (ws : List Int) (who : Int) (hC : Kd.C (Kd.int .i64) W (some ⟨g, 0, none⟩) ws.length ws) (hl : ws.length < 1000) (hs : ws.Pairwise (· ≤ ·)) :
    Calls Try.prog 20 #[.slice (some ⟨g, 0, none⟩) ws.length c, .int .i64 who] W fun e w' => e = .returned (.tuple #[.int .i64 ((ws.countP (· < who) : Nat) : Int), .bool (cont ws who)]) ∧ Below W.heap.size W w' := by
  refine (Try.slices_BinarySearch_int g 0 ws.length c ws who W (Nat.le_refl _) (by omega) (fun j hj => ?_) (by rw [List.take_length]; exact hs)).mono ?_
  · obtain ⟨ad, e, h⟩ := Kd.at_int hC (j : Int) (by omega) (by omega)
    injection e with e
    subst e
    rw [Int.toNat_natCast, add_plain] at h
    rw [Nat.zero_add]
    exact h
  · rintro e w' ⟨rfl, q, rfl⟩
    refine ⟨?_, pw_below_drewN (Below.refl _ _) q⟩
    rw [List.take_length]
    have : ws.contains who = cont ws who := by simp [cont]
    rw [this]
/-- A rising list, one more in it. -/
theorem insL_rises (ws : List Int) (who : Int) (hs : ws.Pairwise (· < ·)) (hn : who ∉ ws) : (insL ws (ws.countP (· < who)) who).Pairwise (· < ·) ∧ ∀ x, x ∈ insL ws (ws.countP (· < who)) who ↔ x = who ∨ x ∈ ws := by
  induction ws with
  | nil => exact ⟨by simp [insL], by simp [insL]⟩
  | cons a r ih =>
    rw [List.pairwise_cons] at hs
    obtain ⟨h1, h2⟩ := ih hs.2 (fun h => hn (List.mem_cons_of_mem _ h))
    have hne : a ≠ who := fun e => hn (e ▸ List.mem_cons_self)
    by_cases ha : a < who
    · have e : insL (a :: r) ((a :: r).countP (· < who)) who = a :: insL r (r.countP (· < who)) who := by
        rw [List.countP_cons_of_pos (by simpa using ha)]
        rfl
      rw [e]
      refine ⟨List.pairwise_cons.mpr ⟨fun y hy => ?_, h1⟩, fun x => ?_⟩
      · rcases (h2 y).mp hy with rfl | hy
        · exact ha
        · exact hs.1 y hy
      · rw [List.mem_cons, h2 x, List.mem_cons]
        constructor
        · rintro (h | h | h)
          · exact .inr (.inl h)
          · exact .inl h
          · exact .inr (.inr h)
        · rintro (h | h | h)
          · exact .inr (.inl h)
          · exact .inl h
          · exact .inr (.inr h)
    · have h0 : (a :: r).countP (· < who) = 0 := by
        rw [List.countP_eq_zero]
        intro y hy
        rcases List.mem_cons.mp hy with rfl | hy
        · simpa using ha
        · have := hs.1 y hy
          simp; omega
      rw [h0]
      have e : insL (a :: r) 0 who = who :: a :: r := rfl
      rw [e]
      refine ⟨List.pairwise_cons.mpr ⟨fun y hy => ?_, List.pairwise_cons.mpr hs⟩, fun x => List.mem_cons⟩
      rcases List.mem_cons.mp hy with rfl | hy
      · omega
      · have := hs.1 y hy
        omega
end Go.Proofs.Ytonbonailghjjaa.Lk
