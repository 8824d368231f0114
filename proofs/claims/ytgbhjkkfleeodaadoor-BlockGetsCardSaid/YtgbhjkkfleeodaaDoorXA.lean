import Derived.Test.YtgbhjkkfleeodaaDoorWMore
import Derived.Laws.Tables
import Derived.Laws.Rows
namespace Go.Proofs.YtgbhjkkfleeodaaDoor.XA
open Go.RowKit Go.Proofs.YtgbhjkkfleeodaaDoorW.PrintWords Go.Proofs.YtgbhjkkfleeodaaDoorW.PrintMore
def arrK (k : IntKind) (xs : List Int) : Array Value := (xs.map (Value.int k)).toArray
theorem arrK_size (k : IntKind) (xs : List Int) : (arrK k xs).size = xs.length := by simp [arrK]
theorem arrK_get (k : IntKind) (xs : List Int) (i : Nat) (h : i < xs.length) : (arrK k xs)[i]? = some (.int k (xs.getD i 0)) := by
  simp [arrK, List.getElem?_eq_getElem h, List.getD_eq_getElem?_getD]
theorem arrK_set (k : IntKind) (xs : List Int) (i : Nat) (v : Int) : (arrK k xs).setIfInBounds i (.int k v) = arrK k (xs.set i v) := by
  apply Array.toList_inj.mp
  simp [arrK, List.map_set]
theorem arrK_one (k : IntKind) (xs : List Int) : (arrK k xs).all (·.oneCell') = true := by
  rw [Array.all_eq_true_iff_forall_mem]
  intro v hv
  simp only [arrK, List.mem_toArray, List.mem_map] at hv
  obtain ⟨x, _, rfl⟩ := hv
  rfl
def IsArr (w : World) (g : Nat) (T : TypeId) (k : IntKind) (xs : List Int) : Prop := w.heap[g]? = some (.cells (arrK k xs) T (0, 0))
theorem IsArr.cell {w : World} {g : Nat} {T : TypeId} {k : IntKind} {xs : List Int} (h : IsArr w g T k xs) (i : Nat) (hi : i < xs.length) : w.cell? ⟨g, i, none⟩ = some (.int k (xs.getD i 0)) :=
  (blk_cell h i).trans (arrK_get k xs i hi)
theorem IsArr.frozen {w : World} {g : Nat} {T : TypeId} {k : IntKind} {xs : List Int} (h : IsArr w g T k xs) (i : Nat) : w.frozen? ⟨g, i, none⟩ = false := blk_frozen h i
theorem IsArr.set {w : World} {g : Nat} {T : TypeId} {k : IntKind} {xs : List Int} (h : IsArr w g T k xs) (i : Nat) (v : Int) : IsArr (w.setCell ⟨g, i, none⟩ (.int k v)) g T k (xs.set i v) := by
  have := blk_set h i (.int k v)
  rwa [arrK_set] at this
theorem IsArr.far {w : World} {g : Nat} {T : TypeId} {k : IntKind} {xs : List Int} (h : IsArr w g T k xs) {p : Addr} (hp : g ≠ p.block) (u : Value) : IsArr (w.setCell p u) g T k xs := blk_far h hp u
theorem IsArr.below {w w1 : World} {g : Nat} {T : TypeId} {k : IntKind} {xs : List Int} (h : IsArr w g T k xs) (hb : Below w.heap.size w w1) : IsArr w1 g T k xs := blk_below h hb
theorem IsArr.lt {w : World} {g : Nat} {T : TypeId} {k : IntKind} {xs : List Int} (h : IsArr w g T k xs) : g < w.heap.size := blk_lt h
theorem IsArr.drew {w : World} {g : Nat} {T : TypeId} {k : IntKind} {xs : List Int} (h : IsArr w g T k xs) : IsArr w.drew g T k xs := h
theorem IsArr.drewN {w : World} {g : Nat} {T : TypeId} {k : IntKind} {xs : List Int} (h : IsArr w g T k xs) (n : Nat) : IsArr (w.drewN n) g T k xs := h
structure SetBlk (w w1 : World) (g : Nat) : Prop where
  os : w1.os = w.os
  tape : w1.tape = w.tape
  output : w1.output = w.output
  size : w1.heap.size = w.heap.size
  other : ∀ k, k ≠ g → w1.heap[k]? = w.heap[k]?
theorem SetBlk.below {w w1 : World} {g : Nat} (h : SetBlk w w1 g) {B : Nat} {w0 : World} (hb : Below B w0 w) (hg : B ≤ g) : Below B w0 w1 :=
  hb.trans ⟨h.os, h.tape, h.output, by rw [h.size]; exact Nat.le_refl _, fun k hk => h.other k (by omega)⟩
theorem SetBlk.arr {w w1 : World} {g g' : Nat} {T : TypeId} {k : IntKind} {xs : List Int} (h : SetBlk w w1 g) (ha : IsArr w g' T k xs) (hne : g' ≠ g) : IsArr w1 g' T k xs := (h.other g' hne).trans ha
section
variable {P : Program} {ops : Array Oper} {rest : List Oper} {o : Oper} {a : Act} {Q : Exit → Act → World → Prop} {W : World}
theorem arr_store (hgd : o.guard = none) (hN : o.dst = none) (ty : TypeId) (x y : Operand) (ho : o.op = .store ty x y) (g : Nat) (k : IntKind) (ys xs : List Int) (hx : a.eval x = .pointer (some ⟨g, 0, none⟩)) (hy : a.eval y = .agg (arrK k xs))
    (t : TypeId) (hg : IsArr W g t k ys) (hi : (P.info? ty).map (·.size) = some xs.length) (hl : ys.length = xs.length)
    (h : ∀ w1, IsArr w1 g t k xs → SetBlk W w1 g → wpList P ops Q rest a w1) : wpList P ops Q (o :: rest) a W := by
  refine wpList_store_row hgd ty x y ho g (arrK k xs) hx hy t (arrK k ys) hg (by rw [arrK_size]; exact hi) (by rw [arrK_size, arrK_size, hl]) (arrK_one k xs) ?_
  rw [hN]
  exact h _ (setRow_heap W g _ _ t _ hg) ⟨rfl, rfl, rfl, by simp, fun j hj => setRow_other W g j _ hj⟩
theorem arr_load (hgd : o.guard = none) (ty : TypeId) (x : Operand) (ho : o.op = .load ty x) (g n E : Nat) (k : IntKind) (xs : List Int) (hx : a.eval x = .pointer (some ⟨g, 0, none⟩)) (t : TypeId) (hg : IsArr W g t k xs)
    (hu : P.underlying ty = some (.array n E)) (hi : (P.info? ty).map (·.size) = some xs.length)
    (h : wpList P ops Q rest (a.put o.dst (.agg (arrK k xs))) W) : wpList P ops Q (o :: rest) a W :=
  wpList_load_row hgd ty x ho g hx t (arrK k xs) (0, 0) (.array n E) hg hu rfl (by rw [arrK_size]; exact hi) h
theorem arr_new (hgd : o.guard = none) {N : Tmp} (hd : o.dst = some N) (xs : List Int) (k : IntKind) (t : TypeId)
    (hrun : (execOp a.eval o).run P W = .ok (.value (.pointer (some ⟨W.heap.size, 0, none⟩))) (W.alloc (.cells (arrK k xs) t (0, 0))))
    (h : ∀ g, g = W.heap.size → ∀ w1, IsArr w1 g t k xs → Below W.heap.size W w1 → wpList P ops Q rest (a.put o.dst (.pointer (some ⟨g, 0, none⟩))) w1) : wpList P ops Q (o :: rest) a W :=
  box_event hgd hd hrun h
end
section
variable {P : Program} {o : Oper} {a : Act} {W : World}
theorem run_load_arr (ty : TypeId) (x : Operand) (ho : o.op = .load ty x) (g n E : Nat) (k : IntKind) (xs : List Int) (hx : a.eval x = .pointer (some ⟨g, 0, none⟩)) (t : TypeId) (hg : IsArr W g t k xs)
    (hu : P.underlying ty = some (.array n E)) (hi : (P.info? ty).map (·.size) = some xs.length) : (execOp a.eval o).run P W = .ok (.value (.agg (arrK k xs))) W := by
  unfold execOp
  simp only [ho, hx, Instr.loadAt, Instr.sureAddr, Sem.run_bind, Sem.run_pure, Result.andThen_ok, run_loadVar_row W g t ty (arrK k xs) (0, 0) (.array n E) hg hu rfl (by rw [arrK_size]; exact hi)]
theorem run_store_arr (ty : TypeId) (x y : Operand) (ho : o.op = .store ty x y) (g : Nat) (k : IntKind) (ys xs : List Int) (hx : a.eval x = .pointer (some ⟨g, 0, none⟩)) (hy : a.eval y = .agg (arrK k xs))
    (t : TypeId) (hg : IsArr W g t k ys) (hi : (P.info? ty).map (·.size) = some xs.length) (hl : ys.length = xs.length) : (execOp a.eval o).run P W = .ok .skip (W.setRow g (arrK k xs)) := by
  unfold execOp
  simp only [ho, hx, hy, Instr.storeAt, Instr.sureAddr, Sem.run_bind, Sem.run_pure, Result.andThen_ok, run_storeVar_row W g t ty (arrK k ys) (arrK k xs) hg (by rw [arrK_size]; exact hi) (by rw [arrK_size, arrK_size, hl]) (arrK_one k xs)]
end
theorem setRow_arr {W : World} {g : Nat} {T : TypeId} {k : IntKind} {ys : List Int} (h : IsArr W g T k ys) (xs : List Int) : IsArr (W.setRow g (arrK k xs)) g T k xs := setRow_heap W g _ _ T _ h
theorem setRow_blk (W : World) (g : Nat) (cs : Array Value) : SetBlk W (W.setRow g cs) g := ⟨rfl, rfl, rfl, by simp, fun j hj => setRow_other W g j _ hj⟩
theorem results_arr {P : Program} {fn : Func} {p : Tmp} {ty : TypeId} (h : fn.results = #[.cell p ty]) (tmps : Array Value) (w : World) (g n E : Nat) (k : IntKind) (xs : List Int) (t : TypeId)
    (hp : tmps.getD p undef = .pointer (some ⟨g, 0, none⟩)) (hg : IsArr w g t k xs) (hu : P.underlying ty = some (.array n E)) (hi : (P.info? ty).map (·.size) = some xs.length) :
    (results fn tmps).run P w = .ok (.agg (arrK k xs)) w :=
  results_cell_row h tmps w g t (arrK k xs) (0, 0) (.array n E) hp hg hu rfl (by rw [arrK_size]; exact hi)
end Go.Proofs.YtgbhjkkfleeodaaDoor.XA
