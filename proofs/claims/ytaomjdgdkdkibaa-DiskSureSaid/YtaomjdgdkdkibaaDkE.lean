/- A disk that no cut is planned for: Dead, Blocks, has, Act, Up, Acts, forget, Write, Read; and of no disk. -/
import Derived.Test.YtaomjdgdkdkibaaDkM
namespace Go.Proofs.Ytaomjdgdkdkibaa.Dk
open Go.RowKit Go.Proofs.YtaomjdgdkdkibaaW.PrintWords Go.Proofs.YtaomjdgdkdkibaaW.PrintLast Go.Proofs.YtaomjdgdkdkibaaW.PrintMore Go.Proofs.Ytaomjdgdkdkibaa.XB Go.Proofs.Ytaomjdgdkdkibaa.PDiskNone
attribute [local go_sem] max2_int min2_int max_two min_two max_three min_three max_four min_four
set_option linter.unusedVariables false
set_option linter.unusedSimpArgs false
theorem info3 : (Try.prog.info? 3).map (fun i => (i.zero, i.size, i.bytes)) = some (some (.int .i64 0), 1, 8) := by kernel_rfl
theorem Below.ofU {B : Nat} {w w' : World} {S : Nat → Prop} (h : Upd S w w') (hB : B ≤ w.heap.size) (hS : ∀ k, S k → B ≤ k) : Below B w w' := h.below hB hS
/-- texts in their cells -/
def strs (l : List ByteArray) : Array Value := (l.map Value.string).toArray
/-- where a disk lies: its cells, its blocks, its map; all from B on -/
structure At where
  g : Nat
  s : Nat
  m : Nat
  B : Nat
/-- a disk: its blocks, its map, the row of what was written, its acts -/
structure Disk (w : World) (p : At) (N : Nat) (sl : List ByteArray) (n : Nat) (f : Int → Option ByteArray) (rv : Value) (xs : List Int) (a : Int) (A : Option Addr) (c : Nat) (dead : Bool) : Prop where
  cells : DiskC w p.g (.slice (some ⟨p.s, 0, none⟩) N N) (.map (some p.m)) rv a (.slice A 0 c) dead
  sure : w.heap[p.s]? = some (.cells (strs sl) 9 (0, 0))
  len : sl.length = N
  small : N ≤ 4096
  map : IsM w p.m n f
  row : Kd.R (Kd.int .i64) 3 w p.B (fun k => k ≠ p.g ∧ k ≠ p.s ∧ k ≠ p.m) rv xs
  gs : p.s ≠ p.g
  gm : p.m ≠ p.g
  sm : p.s ≠ p.m
  bg : p.B ≤ p.g
  bs : p.B ≤ p.s
  bm : p.B ≤ p.m
variable {w w' : World} {p : At} {N n : Nat} {sl : List ByteArray} {f : Int → Option ByteArray} {rv : Value} {xs : List Int} {a : Int} {A : Option Addr} {c : Nat} {dead : Bool}
theorem Disk.move (h : Disk w p N sl n f rv xs a A c dead) (hm : ∀ k, k < w.heap.size → w'.heap[k]? = w.heap[k]?) : Disk w' p N sl n f rv xs a A c dead :=
  ⟨(hm _ (blk_lt h.cells)).trans h.cells, (hm _ (blk_lt h.sure)).trans h.sure, h.len, h.small, h.map.kept (hm _ h.map.lt), Kd.R_step h.row (fun k _ hk => hm k hk), h.gs, h.gm, h.sm, h.bg, h.bs, h.bm⟩
theorem Disk.below (h : Disk w p N sl n f rv xs a A c dead) (hb : Below w.heap.size w w') : Disk w' p N sl n f rv xs a A c dead := h.move fun k hk => hb.block k hk
theorem Disk.base (h : Disk w p N sl n f rv xs a A c dead) : p.B ≤ w.heap.size := Nat.le_trans h.bg (Nat.le_of_lt (blk_lt h.cells))
/-- a cell of its own is written -/
theorem Disk.cell (h : Disk w p N sl n f rv xs a A c dead) {a' : Int} {dead' : Bool} (hc : DiskC w' p.g (.slice (some ⟨p.s, 0, none⟩) N N) (.map (some p.m)) rv a' (.slice A 0 c) dead') (hm : ∀ k, k < w.heap.size → k ≠ p.g → w'.heap[k]? = w.heap[k]?) : Disk w' p N sl n f rv xs a' A c dead' :=
  ⟨hc, (hm _ (blk_lt h.sure) h.gs).trans h.sure, h.len, h.small, h.map.kept (hm _ h.map.lt h.gm), Kd.R_step h.row (fun k hk hl => hm k hl hk.1), h.gs, h.gm, h.sm, h.bg, h.bs, h.bm⟩
theorem wf_small (k : Nat) (h : k < 4096) : (Lit.int .i64 (k : Int)).wf = true := by
  have e1 : IntKind.i64.min = -9223372036854775808 := by decide
  have e2 : IntKind.i64.max = 9223372036854775807 := by decide
  simp [Lit.wf, e1, e2]
  omega
set_option maxHeartbeats 8000000 in
set_option maxRecDepth 100000 in
theorem dead_calls (h : Disk w p N sl n f rv xs a A c dead) : Calls Try.prog 14 #[.pointer (some ⟨p.g, 0, none⟩)] w fun e w' => e = .returned (.bool dead) ∧ w' = w := by
  have c5 : w.cell? ⟨p.g, 5, none⟩ = some (.bool dead) := blk_cell h.cells 5
  clear h
  go_enter Try.func14, Try.ntmps14
  go_wp2
  go_ret
  exact ⟨rfl, rfl⟩
set_option maxHeartbeats 8000000 in
set_option maxRecDepth 100000 in
theorem dead_nil (w : World) : Calls Try.prog 14 #[.pointer none] w fun e w' => e = .returned (.bool true) ∧ w' = w := by
  go_enter Try.func14, Try.ntmps14
  go_wp2
  go_ret
  exact ⟨rfl, rfl⟩
set_option maxHeartbeats 8000000 in
set_option maxRecDepth 100000 in
theorem blocks_calls (h : Disk w p N sl n f rv xs a A c dead) : Calls Try.prog 15 #[.pointer (some ⟨p.g, 0, none⟩)] w fun e w' => e = .returned (.int .i64 (N : Int)) ∧ w' = w := by
  have c0 : w.cell? ⟨p.g, 0, none⟩ = some (.slice (some ⟨p.s, 0, none⟩) N N) := blk_cell h.cells 0
  clear h
  go_enter Try.func15, Try.ntmps15
  go_wp2
  go_ret
  exact ⟨rfl, rfl⟩
set_option maxHeartbeats 8000000 in
set_option maxRecDepth 100000 in
theorem blocks_nil (w : World) : Calls Try.prog 15 #[.pointer none] w fun e w' => e = .returned (.int .i64 0) ∧ w' = w := by
  go_enter Try.func15, Try.ntmps15
  go_wp2
  go_ret
  exact ⟨rfl, rfl⟩
set_option maxHeartbeats 8000000 in
set_option maxRecDepth 100000 in
theorem has_calls (h : Disk w p N sl n f rv xs a A c dead) (k : Int) (h0 : 0 ≤ k) (h1 : k < N) : Calls Try.prog 23 #[.pointer (some ⟨p.g, 0, none⟩), .int .i64 k] w fun e w' => e = .returned (.bool true) ∧ w' = w := by
  have q0 : decide (0 ≤ k) = true := decide_eq_true h0
  have q1 : decide (k < (N : Int)) = true := decide_eq_true h1
  have H := Aside0.mk h
  clear h
  go_enter Try.func23, Try.ntmps23
  go_wp2_with (first | (go_at_call 15; fail))
  refine (blocks_calls H.out).mono ?_
  rintro e w1 ⟨rfl, rfl⟩
  go_wp2
  go_ret
  exact ⟨rfl, rfl⟩
set_option maxHeartbeats 8000000 in
set_option maxRecDepth 100000 in
theorem has_nil (k : Int) (w : World) : Calls Try.prog 23 #[.pointer none, .int .i64 k] w fun e w' => e = .returned (.bool false) ∧ w' = w := by
  by_cases h0 : 0 ≤ k
  · have q0 : decide (0 ≤ k) = true := decide_eq_true h0
    have q1 : decide (k < 0) = false := decide_eq_false (by omega)
    go_enter Try.func23, Try.ntmps23
    go_wp2_with (first | (go_at_call 15; fail))
    refine (blocks_nil _).mono ?_
    rintro e w1 ⟨rfl, rfl⟩
    go_wp2
    go_ret
    exact ⟨rfl, rfl⟩
  · have q0 : decide (0 ≤ k) = false := decide_eq_false h0
    have q1 : ¬ 0 ≤ k := h0
    go_enter Try.func23, Try.ntmps23
    go_wp2
    go_ret
    exact ⟨rfl, rfl⟩
set_option maxHeartbeats 8000000 in
set_option maxRecDepth 100000 in
theorem acts_nil (w : World) : Calls Try.prog 16 #[.pointer none] w fun e w' => e = .returned (.int .i64 0) ∧ w' = w := by
  go_enter Try.func16, Try.ntmps16
  go_wp2
  go_ret
  exact ⟨rfl, rfl⟩
set_option maxHeartbeats 8000000 in
set_option maxRecDepth 100000 in
theorem act_nil (w : World) : Calls Try.prog 17 #[.pointer none] w fun e w' => e = .returned (.int .i64 7) ∧ w' = w := by
  go_enter Try.func17, Try.ntmps17
  go_wp2
  go_ret
  exact ⟨rfl, rfl⟩
set_option maxHeartbeats 8000000 in
set_option maxRecDepth 100000 in
theorem act_calls (h : Disk w p N sl n f rv xs a A c false) (a0 : 0 ≤ a) (a1 : a < 4611686018427387904) :
    Calls Try.prog 17 #[.pointer (some ⟨p.g, 0, none⟩)] w fun e w' => e = .returned (.int .i64 0) ∧ Disk w' p N sl n f rv xs (a + 1) A c false ∧ Below p.B w w' := by
  have wa : wrap64 (a + 1) = a + 1 := w64 (by omega) (by omega)
  have c5 : w.cell? ⟨p.g, 5, none⟩ = some (.bool false) := blk_cell h.cells 5
  have c3 : w.cell? ⟨p.g, 3, none⟩ = some (.int .i64 a) := blk_cell h.cells 3
  have f3 : w.frozen? ⟨p.g, 3, none⟩ = false := blk_frozen h.cells 3
  have h1 := blk_set h.cells 3 (.int .i64 (a + 1))
  have c4 : (w.setCell ⟨p.g, 3, none⟩ (.int .i64 (a + 1))).cell? ⟨p.g, 4, none⟩ = some (.slice A 0 c) := blk_cell h1 4
  have H := Aside0.mk (h.cell (a' := a + 1) (dead' := false) h1 (fun k _ hk => Below.heap_setCell _ _ _ _ hk))
  have HB := Aside0.mk ((Below.refl p.B w).setCell (p := ⟨p.g, 3, none⟩) h.bg (.int .i64 (a + 1)))
  clear h h1
  go_enter Try.func17, Try.ntmps17
  go_wp2
  go_loopw [25] (fun i w' => i = .int .i64 0 ∧ w' = w.setCell ⟨p.g, 3, none⟩ (.int .i64 (a + 1))) (fun i _ => 0)
  case atStart => exact ⟨rfl, rfl⟩
  case round =>
    obtain ⟨rfl, rfl⟩ := hrel
    go_wp2
    go_ret
    exact ⟨rfl, H.out, HB.out⟩
set_option maxHeartbeats 8000000 in
set_option maxRecDepth 100000 in
theorem up_calls (h : Disk w p N sl n f rv xs a A c dead) :
    Calls Try.prog 11 #[.pointer (some ⟨p.g, 0, none⟩)] w fun e w' => e = .returned (.tuple #[]) ∧ Disk w' p N sl n f rv xs a A c false ∧ Below p.B w w' := by
  have c5 : w.cell? ⟨p.g, 5, none⟩ = some (.bool dead) := blk_cell h.cells 5
  have f5 : w.frozen? ⟨p.g, 5, none⟩ = false := blk_frozen h.cells 5
  have H := Aside0.mk (h.cell (a' := a) (dead' := false) (blk_set h.cells 5 (.bool false)) (fun k _ hk => Below.heap_setCell _ _ _ _ hk))
  have HB := Aside0.mk ((Below.refl p.B w).setCell (p := ⟨p.g, 5, none⟩) h.bg (.bool false))
  clear h
  go_enter Try.func11, Try.ntmps11
  go_wp2
  (first | go_end0 | ((try simp only [Exit.inBlock, Exit.then]); refine bodyPost_ret (results_none rfl _ _ _) rfl ?_))
  exact ⟨rfl, H.out, HB.out⟩
set_option maxHeartbeats 8000000 in
set_option maxRecDepth 100000 in
theorem up_nil (w : World) : Calls Try.prog 11 #[.pointer none] w fun e w' => e = .returned (.tuple #[]) ∧ w' = w := by
  go_enter Try.func11, Try.ntmps11
  go_wp2
  (first | go_end0 | ((try simp only [Exit.inBlock, Exit.then]); refine bodyPost_ret (results_none rfl _ _ _) rfl ?_))
  exact ⟨rfl, rfl⟩
set_option maxHeartbeats 8000000 in
set_option maxRecDepth 100000 in
theorem read_nil (k : Int) (w : World) : Calls Try.prog 12 #[.pointer none, .int .i64 k] w fun e w' => e = .returned (.tuple #[.string ⟨#[]⟩, .int .i64 7]) ∧ w' = w := by
  go_enter Try.func12, Try.ntmps12
  go_wp2_with (first | (go_at_call 14; fail))
  refine (dead_nil _).mono ?_
  rintro e w1 ⟨rfl, rfl⟩
  go_wp2
  go_ret2
  exact ⟨rfl, rfl⟩
set_option maxHeartbeats 8000000 in
set_option maxRecDepth 100000 in
theorem write_nil (k : Int) (s : ByteArray) (w : World) : Calls Try.prog 7 #[.pointer none, .int .i64 k, .string s] w fun e w' => e = .returned (.int .i64 7) ∧ w' = w := by
  go_enter Try.func7, Try.ntmps7
  go_wp2_with (first | (go_at_call 14; fail))
  refine (dead_nil _).mono ?_
  rintro e w1 ⟨rfl, rfl⟩
  go_wp2
  go_ret
  exact ⟨rfl, rfl⟩
set_option maxHeartbeats 8000000 in
set_option maxRecDepth 100000 in
theorem read_calls (h : Disk w p N sl n f rv xs a A c false) (k : Nat) (h1 : k < N) :
    Calls Try.prog 12 #[.pointer (some ⟨p.g, 0, none⟩), .int .i64 (k : Int)] w fun e w' => e = .returned (.tuple #[.string ((f (k : Int)).getD (sl.getD k ⟨#[]⟩)), .int .i64 0]) ∧ w' = w := by
  have hk := h.small
  have c0 : w.cell? ⟨p.g, 0, none⟩ = some (.slice (some ⟨p.s, 0, none⟩) N N) := blk_cell h.cells 0
  have c1 : w.cell? ⟨p.g, 1, none⟩ = some (.map (some p.m)) := blk_cell h.cells 1
  have hwf : (Lit.int .i64 (k : Int)).wf = true := wf_small k (Nat.lt_of_lt_of_le h1 hk)
  have lk := h.map.look (k : Int) hwf true
  have hs : w.cell? ⟨p.s, k, none⟩ = some (.string (sl.getD k ⟨#[]⟩)) := by
    rw [blk_cell h.sure k, strs, List.getElem?_toArray, List.getElem?_map, List.getD_eq_getElem?_getD, List.getElem?_eq_getElem (by rw [h.len]; exact h1)]
    rfl
  have p0 : (0 : Int) ≤ (k : Int) := by omega
  have p1 : (k : Int) < (N : Int) := by omega
  have H := Aside0.mk h
  clear h hwf
  rw [if_pos rfl] at lk
  go_enter Try.func12, Try.ntmps12
  go_wp2_with (first | (go_at_call 14; fail))
  refine (dead_calls H.out).mono ?_
  rintro e w1 ⟨rfl, e7⟩
  have e8 := e7.symm
  clear e7
  subst e8
  go_wp2_with (first | (go_at_call 23; fail))
  refine (has_calls H.out (k : Int) p0 p1).mono ?_
  rintro e w1 ⟨rfl, e7⟩
  have e8 := e7.symm
  clear e7
  subst e8
  cases hf : f (k : Int) with
  | some v =>
    rw [hf] at lk
    have lk2 : (Instr.lookup 46 (.map (some p.m)) (.int .i64 (k : Int)) true).run Try.prog w = .ok (.tuple #[.string v, .bool true]) w := lk
    have HF := Aside0.mk hf
    clear lk hf
    go_wp2
    go_ret2
    rw [HF.out]
    exact ⟨rfl, rfl⟩
  | none =>
    rw [hf] at lk
    have lk2 : (Instr.lookup 46 (.map (some p.m)) (.int .i64 (k : Int)) true).run Try.prog w = .ok (.tuple #[.string ⟨#[]⟩, .bool false]) w := lk
    have HF := Aside0.mk hf
    clear lk hf
    go_wp2
    go_ret2
    rw [HF.out]
    exact ⟨rfl, rfl⟩
end Go.Proofs.Ytaomjdgdkdkibaa.Dk
