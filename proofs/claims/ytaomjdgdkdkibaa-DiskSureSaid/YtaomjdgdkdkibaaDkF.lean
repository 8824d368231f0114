/- A disk that no cut is planned for: forget, Write. -/
import Derived.Test.YtaomjdgdkdkibaaDkE
namespace Go.Proofs.Ytaomjdgdkdkibaa.Dk
open Go.RowKit Go.Proofs.YtaomjdgdkdkibaaW.PrintWords Go.Proofs.YtaomjdgdkdkibaaW.PrintLast Go.Proofs.YtaomjdgdkdkibaaW.PrintMore Go.Proofs.Ytaomjdgdkdkibaa.XB Go.Proofs.Ytaomjdgdkdkibaa.PDiskNone
attribute [local go_sem] max2_int min2_int max_two min_two max_three min_three max_four min_four
set_option linter.unusedVariables false
set_option linter.unusedSimpArgs false
variable {w w' : World} {p : At} {N n : Nat} {sl : List ByteArray} {f : Int → Option ByteArray} {rv : Value} {xs : List Int} {a : Int} {A : Option Addr} {c : Nat} {dead : Bool}
set_option maxHeartbeats 8000000 in
set_option maxRecDepth 100000 in
theorem forget_calls (h : Disk w p N sl n f rv xs a A c dead) :
    Calls Try.prog 24 #[.pointer (some ⟨p.g, 0, none⟩)] w fun e w' => e = .returned (.tuple #[]) ∧ Disk w' { p with m := w.heap.size } N sl 0 (fun _ => none) (.slice none 0 0) [] a A c dead ∧ Below p.B w w' := by
  have hmm := @run_makeMap Try.prog
  have h1 := blk_alloc h.cells (.map #[] 0)
  have hs0 := blk_lt h.cells
  have hs1 := blk_lt h.sure
  have c1 : (w.alloc (.map #[] 0)).cell? ⟨p.g, 1, none⟩ = some (.map (some p.m)) := blk_cell h1 1
  have f1 : (w.alloc (.map #[] 0)).frozen? ⟨p.g, 1, none⟩ = false := blk_frozen h1 1
  have h2 := blk_set h1 1 (.map (some w.heap.size))
  have c2 : ((w.alloc (.map #[] 0)).setCell ⟨p.g, 1, none⟩ (.map (some w.heap.size))).cell? ⟨p.g, 2, none⟩ = some rv := blk_cell h2 2
  have f2 : ((w.alloc (.map #[] 0)).setCell ⟨p.g, 1, none⟩ (.map (some w.heap.size))).frozen? ⟨p.g, 2, none⟩ = false := blk_frozen h2 2
  have c0 : w.cell? ⟨p.g, 1, none⟩ = some (.map (some p.m)) := blk_cell h.cells 1
  have c3 : w.cell? ⟨p.g, 2, none⟩ = some rv := blk_cell h.cells 2
  have hne : ∀ k, k ≠ p.g → (((w.alloc (.map #[] 0)).setCell ⟨p.g, 1, none⟩ (.map (some w.heap.size))).setCell ⟨p.g, 2, none⟩ (.slice none 0 0)).heap[k]? = (w.alloc (.map #[] 0)).heap[k]? := fun k hk => (Below.heap_setCell _ _ _ _ hk).trans (Below.heap_setCell _ _ _ _ hk)
  have hgm : w.heap.size ≠ p.g := Nat.ne_of_gt hs0
  have H := Aside0.mk (show Disk (((w.alloc (.map #[] 0)).setCell ⟨p.g, 1, none⟩ (.map (some w.heap.size))).setCell ⟨p.g, 2, none⟩ (.slice none 0 0)) { p with m := w.heap.size } N sl 0 (fun _ => none) (.slice none 0 0) [] a A c dead from
    ⟨blk_set h2 2 (.slice none 0 0), (hne _ h.gs).trans (blk_alloc h.sure _), h.len, h.small, (IsM.empty ((hne _ hgm).trans (heap_alloc_new w _))), Kd.R_nil _ _ _ _ _, h.gs, hgm, Nat.ne_of_lt hs1, h.bg, h.bs, h.base⟩)
  have HB := Aside0.mk ((((Below.refl p.B w).alloc h.base (.map #[] 0)).setCell (p := ⟨p.g, 1, none⟩) h.bg (.map (some w.heap.size))).setCell (p := ⟨p.g, 2, none⟩) h.bg (.slice none 0 0))
  clear h h1 h2 hs0 hs1 hne hgm
  go_enter Try.func24, Try.ntmps24
  go_wp2
  (first | go_end0 | ((try simp only [Exit.inBlock, Exit.then]); refine bodyPost_ret (results_none rfl _ _ _) rfl ?_))
  exact ⟨rfl, H.out, HB.out⟩
/-- the row of what was written, behind one more -/
def nrow (f : Int → Option ByteArray) (k : Int) (xs : List Int) : List Int := if (f k).isSome then xs else xs ++ [k]
/-- what is written behind a text of a number -/
def put (f : Int → Option ByteArray) (k : Int) (v : ByteArray) : Int → Option ByteArray := fun j => if j = k then some v else f j
theorem fresh_ne (h : Disk w p N sl n f rv xs a A c dead) : ∀ k : Nat, w.heap.size ≤ k → k ≠ p.g ∧ k ≠ p.s ∧ k ≠ p.m := by
  intro k hk
  have h1 := blk_lt h.cells
  have h2 := blk_lt h.sure
  have h3 := h.map.lt
  omega
set_option maxHeartbeats 8000000 in
set_option maxRecDepth 100000 in
theorem write_calls (h : Disk w p N sl n f rv xs a A c false) (k : Nat) (h1 : k < N) (v : ByteArray) (hv : v.size = 512) (a0 : 0 ≤ a) (a1 : a < 4611686018427387904) (hn : n < 1000000) (hx : xs.length < 1000000) :
    Calls Try.prog 7 #[.pointer (some ⟨p.g, 0, none⟩), .int .i64 (k : Int), .string v] w fun e w' => e = .returned (.int .i64 0) ∧
      (∃ rv', Disk w' p N sl (n + 1) (put f (k : Int) v) rv' (nrow f (k : Int) xs) (a + 1) A c false) ∧ Below p.B w w' := by
  have hwf := wf_small k (Nat.lt_of_lt_of_le h1 h.small)
  have p0 : (0 : Int) ≤ (k : Int) := by omega
  have p1 : (k : Int) < (N : Int) := by omega
  have s0 : decide ((v.size : Int) = 512) = true := decide_eq_true (by omega)
  have s1 : decide (v.size = 512) = true := decide_eq_true hv
  have H := Aside0.mk h
  clear h
  go_enter Try.func7, Try.ntmps7
  go_wp2_with (first | (go_at_call 14; fail))
  refine (dead_calls H.out).mono ?_
  rintro e w1 ⟨rfl, e7⟩
  have e8 := e7.symm
  clear e7
  subst e8
  go_wp2_with (first | (go_at_call 23; fail))
  refine (has_calls H.out (k : Int) p0 p1).mono ?_
  rintro e w1 ⟨rfl, e7⟩
  have e8 := e7.symm
  clear e7
  subst e8
  go_wp2_with (first | (go_at_call 17; fail))
  refine (act_calls H.out a0 a1).mono ?_
  rintro e w1 ⟨rfl, hd, hb⟩
  have HD := Aside0.mk hd
  have HB := Aside0.mk hb
  clear hb H
  have c1 : w1.cell? ⟨p.g, 1, none⟩ = some (.map (some p.m)) := blk_cell hd.cells 1
  have lk := hd.map.look (k : Int) hwf true
  rw [if_pos rfl] at lk
  have hbase := hd.base
  clear hd
  cases hf : f (k : Int) with
  | some v0 =>
    rw [hf] at lk
    have lk2 : (Instr.lookup 46 (.map (some p.m)) (.int .i64 (k : Int)) true).run Try.prog w1 = .ok (.tuple #[.string v0, .bool true]) w1 := lk
    obtain ⟨w2, hput, hm2, hu2⟩ := HD.out.map.put (k : Int) hwf v (by rw [hv]; decide) (by unfold maxLen; omega)
    have HM := Aside0.mk hm2
    have HU := Aside0.mk hu2
    have HF := Aside0.mk hf
    clear lk hf hm2 hu2
    go_wp2
    go_ret
    have hd := HD.out
    have hu := HU.out
    rw [show nrow f (k : Int) xs = xs by rw [nrow, HF.out]; rfl]
    refine ⟨rfl, ⟨rv, ⟨hu.blk hd.cells (fun e => hd.gm e.symm), hu.blk hd.sure hd.sm, hd.len, hd.small, HM.out, Kd.R_step hd.row (fun k hk hl => hu.block k hl hk.2.2), hd.gs, hd.gm, hd.sm, hd.bg, hd.bs, hd.bm⟩⟩, ?_⟩
    exact HB.out.trans (hu.below hd.base (fun k hk => by subst hk; exact hd.bm))
  | none =>
    rw [hf] at lk
    have lk2 : (Instr.lookup 46 (.map (some p.m)) (.int .i64 (k : Int)) true).run Try.prog w1 = .ok (.tuple #[.string ⟨#[]⟩, .bool false]) w1 := lk
    have HF := Aside0.mk hf
    clear lk hf
    obtain ⟨A2, co, hrv⟩ := Kd.R_slice HD.out.row
    have HRV := Aside0.mk hrv
    have c2 : w1.cell? ⟨p.g, 2, none⟩ = some (.slice A2 xs.length co) := by rw [blk_cell HD.out.cells 2, hrv]; rfl
    have hx2 := Aside0.mk hx
    clear hrv
    go_wp2_with ((with_reducible refine gate_builtin (b := .append) (xs := #[.tmp 43, .tmp 45]) rfl ?_); at_builtin; go_loud (refine Kd.R_append (Kd.int .i64) (w0 := w1) p.B rfl (.tmp 43) (.tmp 45) 50 3 (.int .i64 0) 8 rfl Try.underlying50 info3 rfl (by decide) (by decide) (.slice A2 xs.length co) xs (k : Int) [.int .i64 (k : Int)] (fun k_ => k_ ≠ p.g ∧ k_ ≠ p.s ∧ k_ ≠ p.m) (fun _ => False) rfl rfl ?aP (fun _ hk => hk.elim) ?aF ?aO ?aB ?aS ?aL ?_))
    case aP => exact rfl
    case aF => exact fresh_ne HD.out
    case aO => rw [← HRV.out]; exact HD.out.row
    case aB => exact Below.refl _ _
    case aS => exact hbase
    case aL => have := hx2.out; omega
    intro v1 w2 hR hB hG hO
    obtain ⟨A3, c3, hv1⟩ := Kd.R_slice hR
    obtain ⟨L3, hL3⟩ : ∃ L, L = (xs ++ [(k : Int)]).length := ⟨_, rfl⟩
    rw [← hL3] at hv1
    clear hL3
    subst hv1
    have HR := Aside0.mk hR
    have HB2 := Aside0.mk hB
    have own : ∀ q, q < w1.heap.size → (q = p.g ∨ q = p.s ∨ q = p.m) → w2.heap[q]? = w1.heap[q]? := by
      intro q hq hqq
      refine hG.block q hq (fun e => ?_)
      have h0 := HD.out.row.1 q (by rw [HRV.out]; exact e.symm)
      rcases hqq with rfl | rfl | rfl
      · exact h0.1 rfl
      · exact h0.2.1 rfl
      · exact h0.2.2 rfl
    have hd := HD.out
    have hc2 := (own p.g (blk_lt hd.cells) (.inl rfl)).trans hd.cells
    have hs2 := (own p.s (blk_lt hd.sure) (.inr (.inl rfl))).trans hd.sure
    have hm2 := hd.map.kept (own p.m hd.map.lt (.inr (.inr rfl)))
    have g2 : w2.cell? ⟨p.g, 2, none⟩ = some rv := blk_cell hc2 2
    have k2 : w2.frozen? ⟨p.g, 2, none⟩ = false := blk_frozen hc2 2
    have hc3 := blk_set hc2 2 (.slice A3 L3 c3)
    have hs3 := (Below.heap_setCell w2 ⟨p.g, 2, none⟩ (.slice A3 L3 c3) p.s hd.gs).trans hs2
    have hm3 := hm2.kept (Below.heap_setCell w2 ⟨p.g, 2, none⟩ (.slice A3 L3 c3) p.m hd.gm)
    have hr3 := Kd.R_far (p := ⟨p.g, 2, none⟩) hR (fun q hq => hq.1) (.slice A3 L3 c3)
    have g1 : (w2.setCell ⟨p.g, 2, none⟩ (.slice A3 L3 c3)).cell? ⟨p.g, 1, none⟩ = some (.map (some p.m)) := blk_cell hc3 1
    obtain ⟨w4, hput, hm4, hu4⟩ := hm3.put (k : Int) hwf v (by rw [hv]; decide) (by unfold maxLen; omega)
    have H4 := Aside0.mk (show Disk w4 p N sl (n + 1) (put f (k : Int) v) (.slice A3 L3 c3) (xs ++ [(k : Int)]) (a + 1) A c false from
      ⟨hu4.blk hc3 (fun e => hd.gm e.symm), hu4.blk hs3 hd.sm, hd.len, hd.small, hm4, Kd.R_step hr3 (fun q hq hl => hu4.block q hl hq.2.2), hd.gs, hd.gm, hd.sm, hd.bg, hd.bs, hd.bm⟩)
    have HB4 := Aside0.mk (show Below p.B w w4 from (HB.out.trans (hB.setCell (p := ⟨p.g, 2, none⟩) hd.bg (.slice A3 L3 c3))).trans (hu4.below (by simp only [World.setCell]; rw [Array.size_modify]; exact Nat.le_trans hbase hB.size) (fun q hq => by subst hq; exact hd.bm)))
    clear hd hc2 hs2 hm2 hc3 hs3 hm3 hr3 hm4 hu4 hR hB hG hO own
    go_wp2
    go_ret
    rw [show nrow f (k : Int) xs = xs ++ [(k : Int)] by rw [nrow, HF.out]; rfl]
    exact ⟨rfl, ⟨_, H4.out⟩, HB4.out⟩
end Go.Proofs.Ytaomjdgdkdkibaa.Dk
