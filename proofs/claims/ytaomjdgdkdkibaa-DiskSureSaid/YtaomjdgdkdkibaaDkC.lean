/- A disk made (disk.New), its power (Act, Fail, Up, Acts, Dead), walked, where no block was written. -/
import Derived.Test.YtaomjdgdkdkibaaDkB
namespace Go.Proofs.Ytaomjdgdkdkibaa.Dk
open Go.RowKit Go.Proofs.YtaomjdgdkdkibaaW.PrintWords Go.Proofs.YtaomjdgdkdkibaaW.PrintLast Go.Proofs.YtaomjdgdkdkibaaW.PrintMore Go.Proofs.Ytaomjdgdkdkibaa.XB Go.Proofs.Ytaomjdgdkdkibaa.PDiskNone
attribute [local go_sem] max2_int min2_int max_two min_two max_three min_three max_four min_four
set_option linter.unusedVariables false
set_option linter.unusedSimpArgs false
/-- a block of zeros -/
def z0 : ByteArray := ⟨(Go.Lib.repeatL [0] 512).toArray⟩
theorem zero_f : disk_zero.f = some z0 := by
  unfold disk_zero.f strings_Repeat.f
  rw [if_pos (by decide)]
  rfl
/-- a disk's own cells: its blocks (a row), its map, the row of what was written, how many acts, the cuts, whether there is no power -/
def DiskC (w : World) (g : Nat) (sv mv rv : Value) (a : Int) (cv : Value) (dead : Bool) : Prop :=
  w.heap[g]? = some (.cells #[sv, mv, rv, .int .i64 a, cv, .bool dead] 52 (0, 0))
theorem blk_upd {w : World} {g : Nat} {o : Obj} {S : Nat → Prop} {w' : World} (h : w.heap[g]? = some o) (hu : Upd S w w') (hn : ¬ S g) : w'.heap[g]? = some o := hu.blk h hn
set_option maxHeartbeats 8000000 in
set_option maxRecDepth 100000 in
theorem new_bad (n : Int) (hn : n < 1 ∨ 4096 < n) (A : Option Addr) (m c : Nat) (w : World) :
    Calls Try.prog 5 #[.int .i64 n, .slice A m c] w fun e w' => e = .returned (.tuple #[.pointer none, .int .i64 1]) ∧ Below w.heap.size w w' := by
  rcases hn with h | h
  · have c0 : decide (n < 1) = true := decide_eq_true h
    go_enter Try.func5, Try.ntmps5
    go_wp2
    go_ret2
    exact ⟨rfl, Below.refl _ _⟩
  · have c0 : decide (n < 1) = false := decide_eq_false (by omega)
    have c1 : decide (4096 < n) = true := decide_eq_true h
    go_enter Try.func5, Try.ntmps5
    go_wp2
    go_ret2
    exact ⟨rfl, Below.refl _ _⟩
set_option maxHeartbeats 8000000 in
set_option maxRecDepth 100000 in
theorem new_calls (n : Nat) (h1 : 1 ≤ n) (hn : n ≤ 4096) (A : Option Addr) (m c : Nat) (L : List S48) (w : World) (hr : Kd.C k48 w A m L) (hl : m * 16 ≤ 140737488355328) :
    Calls Try.prog 5 #[.int .i64 n, .slice A m c] w fun e w' => ∃ g s mv cv, e = .returned (.tuple #[.pointer (some ⟨g, 0, none⟩), .int .i64 0]) ∧ w.heap.size ≤ s ∧ s < mv ∧ mv < g ∧
      DiskC w' g (.slice (some ⟨s, 0, none⟩) n n) (.map (some mv)) (.slice none 0 0) 0 cv false ∧ w'.heap[s]? = some (.cells (rep z0 n n).toArray 9 (0, 0)) ∧ w'.heap[mv]? = some (.map #[] 0) ∧ Cuts w' cv L w.heap.size g ∧ Below w.heap.size w w' := by
  have hmm := @run_makeMap Try.prog
  have HR := Aside0.mk hr
  have HL := Aside0.mk hl
  clear hr hl
  have c0 : decide ((n : Int) < 1) = false := decide_eq_false (by omega)
  have c1 : decide ((4096 : Int) < (n : Int)) = false := decide_eq_false (by omega)
  go_enter Try.func5, Try.ntmps5
  go_wp2_with (first | (go_at_call 21; fail))
  refine (disk_zero.calls z0 _ zero_f).mono ?_
  rintro e w1 ⟨rfl, hb⟩
  have HB1 := Aside0.mk hb
  clear hb
  go_wp2_with (first | (go_at_call 20; fail))
  refine (repeat_calls z0 n h1 hn w1.heap.size 1 _ ?hc ?lt (Nat.le_refl _)).mono ?_
  case hc => exact (blk_cell (heap_alloc_new w1 _) 0).trans rfl
  case lt => rw [World.size_alloc]; omega
  rintro e w2 ⟨s, rfl, hs, hsr, hb⟩
  have HS := Aside0.mk hs
  have HSR := Aside0.mk hsr
  have HB2 := Aside0.mk (below_step (below_alloc HB1.out _) hb)
  clear hs hsr hb
  go_wp2_with (first | (go_at_call 22; fail))
  refine (clone_calls A m c L _ (Kd.C_below HR.out ?hb3) HL.out).mono ?_
  case hb3 => exact below_alloc HB2.out _
  rintro e w3 ⟨cv, rfl, hcv, hb⟩
  obtain ⟨A1, c1, rfl, hl, hcr⟩ := hcv
  have HCV := Aside0.mk (show Cuts w3 (.slice A1 L.length c1) L _ _ from ⟨A1, c1, rfl, hl, hcr⟩)
  clear hl hcr
  have HB3' := Aside0.mk hb
  have HB3 := Aside0.mk (below_step (below_alloc HB2.out _) hb)
  clear hb
  go_wp2
  go_ret2
  have ls : s < w2.heap.size := blk_lt HSR.out
  have e1 : (w2.alloc (.map #[] 0)).heap.size = w2.heap.size + 1 := World.size_alloc _ _
  have e3 := HB3'.out.size
  have e2 := HS.out
  rw [World.size_alloc] at e2
  have e4 := HB1.out.size
  refine ⟨w3.heap.size, s, w2.heap.size, _, rfl, by omega, ls, by omega, heap_alloc_new w3 _, ?_, ?_, ?_, below_alloc HB3.out _⟩
  · exact blk_alloc (blk_below (blk_alloc HSR.out _) HB3'.out) _
  · exact blk_alloc (blk_below (heap_alloc_new w2 _) HB3'.out) _
  · refine Cuts.move (lo := w.heap.size) (hi := w3.heap.size) ?_ (fun k _ hk => Below.heap_alloc w3 _ k hk)
    obtain ⟨A1, c1, e, hl, h⟩ := HCV.out
    refine ⟨A1, c1, e, hl, fun i i0 i1 => ?_⟩
    obtain ⟨ad, ha, hb, x⟩ := h i i0 i1
    exact ⟨ad, ha, ⟨by have := hb.1; have := HB2.out.size; omega, hb.2⟩, x⟩
end Go.Proofs.Ytaomjdgdkdkibaa.Dk
