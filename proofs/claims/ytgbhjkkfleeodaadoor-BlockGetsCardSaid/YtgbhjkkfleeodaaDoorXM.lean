import Derived.Test.YtgbhjkkfleeodaaDoorWMore
import Derived.Laws.IdiomCopy
namespace Go.Proofs.YtgbhjkkfleeodaaDoor.XM
open Go.RowKit Go.Proofs.YtgbhjkkfleeodaaDoorW.PrintWords Go.Proofs.YtgbhjkkfleeodaaDoorW.PrintMore
def OwnM (w : World) (base e : Nat) (v : Value) (xs : List Int) : Prop :=
  ∃ (g cap : Nat) (cur : Array Value) (mk : Nat × Nat), v = .slice (some ⟨g, 0, none⟩) xs.length cap ∧ base ≤ g ∧ w.heap[g]? = some (.cells cur e mk) ∧ xs.length ≤ cap ∧ cap ≤ maxLen ∧ cur.size = cap ∧
    cur.toList.take xs.length = xs.map (Value.int .u8) ∧ (mk.2 ≤ mk.1 ∨ cap ≤ mk.1)
theorem heap_setCell_mark (w : World) (g i : Nat) (cs : Array Value) (t : TypeId) (mk : Nat × Nat) (u : Value) (h : w.heap[g]? = some (.cells cs t mk)) : (w.setCell ⟨g, i, none⟩ u).heap[g]? = some (.cells (cs.setIfInBounds i u) t mk) := by
  simp [World.setCell, Array.getElem?_modify, h]
theorem frozen_mark {w : World} {g i : Nat} {cs : Array Value} {t : TypeId} {mk : Nat × Nat} (h : w.heap[g]? = some (.cells cs t mk)) (hm : mk.2 ≤ mk.1 ∨ i < mk.1) : w.frozen? ⟨g, i, none⟩ = false := by
  obtain ⟨lo, hi⟩ := mk
  simp only [World.frozen?, h]
  simp only at hm
  rcases hm with hm | hm
  · by_cases h1 : lo ≤ i
    · have : ¬ i < hi := by omega
      simp [this]
    · simp [h1]
  · have : ¬ lo ≤ i := by omega
    simp [this]
theorem OwnM.cell {w : World} {base e g cap n : Nat} {xs : List Int} (h : OwnM w base e (.slice (some ⟨g, 0, none⟩) n cap) xs) (j : Nat) (hj : j < xs.length) : w.cell? ⟨g, j, none⟩ = some (.int .u8 (xs.getD j 0)) := by
  obtain ⟨g', cap', cur, mk, hv, _, hg, _, _, _, ht, _⟩ := h
  injection hv with hv1 hv2 hv3
  injection hv1 with hv1
  injection hv1 with hv1
  subst hv1
  rw [cell_of_row w g j cur e mk hg]
  have h2 : (cur.toList.take xs.length)[j]? = (xs.map (Value.int .u8))[j]? := by rw [ht]
  rw [List.getElem?_take, if_pos hj, Array.getElem?_toList, List.getElem?_map, List.getElem?_eq_getElem hj] at h2
  rw [h2, List.getD_eq_getElem?_getD, List.getElem?_eq_getElem hj]; rfl
theorem OwnM.below {w w1 : World} {base e : Nat} {v : Value} {xs : List Int} (h : OwnM w base e v xs) (hb : Below w.heap.size w w1) : OwnM w1 base e v xs := by
  obtain ⟨g, cap, cur, mk, hv, h1, hg, h2⟩ := h
  exact ⟨g, cap, cur, mk, hv, h1, blk_below hg hb, h2⟩
theorem OwnM.reads {w : World} {base e g cap n : Nat} {xs : List Int} (h : OwnM w base e (.slice (some ⟨g, 0, none⟩) n cap) xs) (hn : n = xs.length) (hs : n ≤ 9223372036854775807) : ReadsInt w .u8 (some ⟨g, 0, none⟩) n xs :=
  ⟨hn.symm, hs, fun _ => ⟨_, rfl, fun j hj => by rw [add_plain]; exact h.cell j (by omega)⟩⟩
theorem ownM_bytes (W : World) (e : TypeId) (s : ByteArray) (hs : s.size ≤ maxLen) (base : Nat) (hb : base ≤ W.heap.size) : OwnM (Lib.bytesWorld W e s) base e (.slice (some ⟨W.heap.size, 0, none⟩) s.size (grownCap W s.size 0 e)) (bytesOf s) := by
  have hge := grownCap_ge W s.size 0 e
  have hsz : (Lib.bytesCells W e s).size = grownCap W s.size 0 e := by
    have : s.data.size = s.size := rfl
    simp [Lib.bytesCells, this]
    omega
  refine ⟨_, _, _, _, by rw [bytesOf_length], hb, Lib.bytesWorld_at_new W e s, by rw [bytesOf_length]; exact hge, grownCap_le_maxLen W s.size 0 e hs, hsz, ?_, .inr (by rw [hsz]; exact Nat.le_refl _)⟩
  rw [bytesOf_length]
  simp only [Lib.bytesCells, Array.toList_append, Array.toList_map, bytesOf, List.map_map]
  rw [List.take_left' (by simp)]
  rfl
theorem OwnM.frozen {w : World} {base e g cap n : Nat} {xs : List Int} (h : OwnM w base e (.slice (some ⟨g, 0, none⟩) n cap) xs) (j : Nat) (hj : j < xs.length) : w.frozen? ⟨g, j, none⟩ = false := by
  obtain ⟨g', cap', cur, mk, hv, _, hg, h1, _, _, _, hm⟩ := h
  injection hv with hv1 hv2 hv3
  injection hv1 with hv1
  injection hv1 with hv1
  subst hv1
  exact frozen_mark hg (by omega)
theorem OwnM.set {w : World} {base e g cap n : Nat} {xs : List Int} (h : OwnM w base e (.slice (some ⟨g, 0, none⟩) n cap) xs) (j : Nat) (v : Int) : OwnM (w.setCell ⟨g, j, none⟩ (.int .u8 v)) base e (.slice (some ⟨g, 0, none⟩) n cap) (xs.set j v) := by
  obtain ⟨g', cap', cur, mk, hv, h0, hg, h1, h2, h3, h4, hm⟩ := h
  injection hv with hv1 hv2 hv3
  injection hv1 with hv1
  injection hv1 with hv1
  subst hv1
  refine ⟨g, cap', cur.setIfInBounds j (.int .u8 v), mk, ?_, h0, heap_setCell_mark w g j cur e mk _ hg, by rw [List.length_set]; exact h1, h2, by simp [h3], ?_, hm⟩
  · rw [List.length_set, hv2, hv3]
  · rw [List.length_set, Array.toList_setIfInBounds, List.take_set, h4, List.map_set]
theorem OwnM.drew {w : World} {base e : Nat} {v : Value} {xs : List Int} (h : OwnM w base e v xs) : OwnM w.drew base e v xs := h
theorem OwnM.drewN {w : World} {base e : Nat} {v : Value} {xs : List Int} (h : OwnM w base e v xs) (m : Nat) : OwnM (w.drewN m) base e v xs := h
theorem OwnM.ge {w : World} {base e g cap n : Nat} {xs : List Int} (h : OwnM w base e (.slice (some ⟨g, 0, none⟩) n cap) xs) : base ≤ g := by
  obtain ⟨g', cap', cur, mk, hv, h0, _⟩ := h
  injection hv with hv1 hv2 hv3
  injection hv1 with hv1
  injection hv1 with hv1
  subst hv1
  exact h0
section
variable {P : Program} {ops : Array Oper} {rest : List Oper} {o : Oper} {a : Act} {Q : Exit → Act → World → Prop}
theorem append_M {W : World} (hgd : o.guard = none) (s x : Operand) (t e : TypeId) (ho : o.op = .call { callee := .builtin .append, args := #[s, x], argTypes := #[t, t] })
    (ht : P.underlying t = some (.slice e)) (hinfo : (P.info? e).map (fun i => (i.zero, i.size, i.bytes)) = some (some (.int .u8 0), 1, 1)) (base : Nat) (v : Value) (xs : List Int) (b : Int) (ad : Addr) (c : Nat)
    (hs : a.eval s = v) (hx : a.eval x = .slice (some ad) 1 c) (hc : W.cell? ad = some (.int .u8 b)) (HO : OwnM W base e v xs) (hbase : base ≤ W.heap.size) (hl : xs.length + 1 ≤ 140737488355328)
    (h : ∀ v1 w1, OwnM w1 base e v1 (xs ++ [b]) → Below base W w1 → wpList P ops Q rest (a.put o.dst v1) w1) : wpList P ops Q (o :: rest) a W := by
  obtain ⟨i0, hi, hzz⟩ := Option.map_eq_some_iff.1 hinfo
  simp only [Prod.mk.injEq] at hzz
  obtain ⟨hz0, hz1, hz2⟩ := hzz
  have hnews : ∀ j u, [Value.int .u8 b][j]? = some u → W.cell? (ad.add j) = some u := by
    intro j u hu
    match j with
    | 0 =>
      simp at hu
      subst hu
      rw [Addr.add_zero']; exact hc
    | j + 1 => simp at hu
  have hrun : ∃ v1 w1, (Builtin.append_ #[t, t] o.type #[v, .slice (some ad) 1 c]).run P W = .ok v1 w1 ∧ OwnM w1 base e v1 (xs ++ [b]) ∧ Below base W w1 := by
    obtain ⟨g, cap, cur, mk, rfl, hbg, hg, hnc, hcm, hcs, htk, hmk⟩ := HO
    by_cases hroom : xs.length + 1 ≤ cap
    · have hcell : (W.cell? ⟨g, xs.length, none⟩).isSome = true := by
        rw [cell_of_row W g xs.length cur e mk hg]
        simp; omega
      have hfr : W.frozen? ⟨g, xs.length, none⟩ = false := frozen_mark hg (by rcases hmk with hmk | hmk; exact .inl hmk; exact .inr (by omega))
      have hf := run_firstCells_some (P := P) W 1 1 ad 1 c [Value.int .u8 b] (by simp) hnews
      have hst := run_storeCells_cells (P := P) g xs.length [Value.int .u8 b] 0 W (by intro j hj; simp at hj; subst hj; exact hcell) (by intro j hj; simp at hj; subst hj; exact hfr) (by intro q hq; simp at hq; subst hq; rfl)
      simp only [Nat.add_zero] at hst
      refine ⟨.slice (some ⟨g, 0, none⟩) (xs.length + 1) cap, W.setCell ⟨g, xs.length, none⟩ (.int .u8 b), ?_, ?_, (Below.refl base W).setCell hbg _⟩
      · simp [Builtin.append_, run_underlying ht, sizeOf, typeInfo, hi, hz1, Builtin.lenOf, hroom, hf, Addr.add_lit, hst, World.setCells]
      · refine ⟨g, cap, cur.setIfInBounds xs.length (.int .u8 b), mk, by simp, hbg, heap_setCell_mark W g xs.length cur e mk _ hg, by simp; omega, hcm, by simp [hcs], ?_, hmk⟩
        rw [List.length_append, List.length_singleton, List.take_add_one, Array.toList_setIfInBounds, List.take_set_of_le (Nat.le_refl _), htk, List.map_append]
        congr 1
        rw [List.getElem?_set_self (by simp; omega)]; rfl
    · have holds : ∀ j u, (xs.map (Value.int .u8))[j]? = some u → W.cell? ((⟨g, 0, none⟩ : Addr).add j) = some u := by
        intro j u hu
        have hj : j < xs.length := by
          rcases Nat.lt_or_ge j xs.length with h | h
          · exact h
          · simp [List.getElem?_eq_none h] at hu
        rw [add_plain, cell_of_row W g j cur e mk hg, ← Array.getElem?_toList]
        have h2 : (cur.toList.take xs.length)[j]? = (xs.map (Value.int .u8))[j]? := by rw [htk]
        rw [List.getElem?_take, if_pos hj] at h2
        rw [h2]; exact hu
      have hr := run_append_grow (P := P) W t o.type e i0 (.int .u8 0) ht hi hz0 ⟨g, 0, none⟩ xs.length cap (xs.map (Value.int .u8)) (by simp [hz1]) holds ad 1 c [Value.int .u8 b] (by simp [hz1]) hnews (by omega) (by omega)
        (growslice_fits (by omega) (by rw [hz2]; omega))
      have hge := grownCap_ge W (xs.length + 1) cap e
      have hcm2 : grownCap W (xs.length + 1) cap e ≤ maxLen := grownCap_le_maxLen W (xs.length + 1) cap e (by unfold maxLen; omega)
      refine ⟨_, _, hr, ⟨W.heap.size, grownCap W (xs.length + 1) cap e, _, (0, 0), by simp, hbase, heap_alloc_new W.drew _, by simp; omega, hcm2, ?_, ?_, .inl (Nat.le_refl _)⟩, ((Below.refl base W).drew).alloc hbase _⟩
      · simp [size_zeroCells, Value.cells]; omega
      · simp only [Array.toList_append, List.length_append, List.length_singleton, List.map_append]
        rw [List.take_left' (by simp)]
        simp
  obtain ⟨v1, w1, hr, hown, hb⟩ := hrun
  refine wpList_plain hgd fun K hK => ?_
  unfold Oper.wp execOp
  simp only [ho, resolve, invoke, builtin, Sem.run_bind, Sem.run_pure, Result.andThen_ok, List.map_toArray, List.map_cons, List.map_nil, hs, hx, hr]
  exact hK _ _ (h v1 w1 hown hb)
end
end Go.Proofs.YtgbhjkkfleeodaaDoor.XM
