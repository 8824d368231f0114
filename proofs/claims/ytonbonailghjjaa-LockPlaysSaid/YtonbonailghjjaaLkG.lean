/- Free: what one holds is given back, walked. -/
import Derived.Test.YtonbonailghjjaaLkF
namespace Go.Proofs.Ytonbonailghjjaa.Lk
open Go.RowKit Go.Proofs.YtonbonailghjjaaW.PrintWords Go.Proofs.YtonbonailghjjaaW.PrintLast Go.Proofs.YtonbonailghjjaaW.PrintMore Go.Proofs.Ytonbonailghjjaa.XB Go.Proofs.Ytonbonailghjjaa.PLockMost
attribute [local go_sem] max2_int min2_int max_two min_two max_three min_three max_four min_four
set_option linter.unusedVariables false
set_option linter.unusedSimpArgs false
variable {w w' : World} {p : At} {rv : Value} {l : List S51}
theorem tab_row (h : Tab w p rv l) (hl : 0 < l.length) : ∃ gR c, rv = .slice (some ⟨gR, 0, none⟩) l.length c := by
  obtain ⟨A, c, hv, _, _⟩ := Kd.R_reads h.row
  obtain ⟨_, inner, ho, hr⟩ := h.row
  rcases ho.2 with ⟨h2, h3⟩ | ⟨g', cap', cur, hv2, _⟩
  · omega
  · rw [hv] at hv2
    injection hv2 with e1 _ _
    subst e1
    exact ⟨g', c, hv⟩
/-- an element of a table, its cells and its row -/
theorem tab_at {W : World} {gR n c : Nat} (h : Tab W p (.slice (some ⟨gR, 0, none⟩) n c) l) (j : Nat) (hj : j < l.length) :
    ∃ A1 c1, W.cell? ⟨gR, j * 3, none⟩ = some (.string (rd_T51 l (j : Int)).f0) ∧ W.cell? ⟨gR, j * 3 + 1, none⟩ = some (.slice A1 (rd_T51 l (j : Int)).f1.length c1) ∧ W.cell? ⟨gR, j * 3 + 2, none⟩ = some (.int .i64 (rd_T51 l (j : Int)).f2) ∧ (rd_T51 l (j : Int)).f1.length ≤ c1 ∧ Kd.C (Kd.int .i64) W A1 (rd_T51 l (j : Int)).f1.length (rd_T51 l (j : Int)).f1 ∧
      Kd.R (Kd.int .i64) 3 W p.B (fun k => k ≠ p.g ∧ k ≠ gR ∧ k < W.heap.size) (.slice A1 (rd_T51 l (j : Int)).f1.length c1) (rd_T51 l (j : Int)).f1 := by
  have hn := (Kd.R_reads' h.row).1
  have k0 : (0 : Int) ≤ (j : Int) := by omega
  have k1 : (j : Int) < (n : Int) := by omega
  subst hn
  obtain ⟨ad, A1, c1, hA, t0, t1, t2, hlen, hC1⟩ := at_T51 (Kd.R_reads' h.row).2.2 (j : Int) k0 k1
  obtain rfl := Option.some.inj hA
  rw [Int.toNat_natCast, add_plain] at t0 t1 t2
  obtain ⟨cs, hcl, hM, hcc, _⟩ := Kd.R_elem (Kd.R_bound h.row) z51 (j : Int) k0 k1
  obtain ⟨v1, rfl, hR1⟩ := k51_openM hM
  have hv : W.cell? ⟨gR, (j : Int).toNat * 3 + 1, none⟩ = some v1 := hcc 1 v1 rfl
  rw [Int.toNat_natCast] at hv
  rw [t1] at hv
  obtain rfl := Option.some.inj hv
  exact ⟨A1, c1, t0, t1, t2, hlen, hC1, Kd.R_mono hR1 (fun k hk => ⟨hk.1.1, hk.2, hk.1.2.2.1⟩)⟩
/-- what stays of a table where one gives all back -/
def freed (who : Int) (l : List S51) : List S51 := (l.map (fun x => (⟨x.f0, but who x.f1, x.f2⟩ : S51))).filter (fun x => !x.f1.isEmpty)
theorem freed_succ (who : Int) (l : List S51) (j : Nat) (hj : j < l.length) : freed who (l.take (j + 1)) = freed who (l.take j) ++ (if (but who (rd_T51 l (j : Int)).f1).isEmpty then [] else [⟨(rd_T51 l (j : Int)).f0, but who (rd_T51 l (j : Int)).f1, (rd_T51 l (j : Int)).f2⟩]) := by
  have e : rd_T51 l (j : Int) = l[j] := by simp [rd_T51, List.getD_eq_getElem?_getD, List.getElem?_eq_getElem hj]
  unfold freed
  rw [e, List.take_succ_eq_append_getElem hj, List.map_append, List.filter_append]
  congr 1
  by_cases c : (but who l[j].f1).isEmpty = true
  · rw [if_pos c]; simp [c]
  · rw [if_neg c]; simp [c]
theorem freed_len (who : Int) (l : List S51) : (freed who l).length ≤ l.length := Nat.le_trans (List.length_filter_le _ _) (by simp)
theorem but_le (who : Int) (xs : List Int) : (but who xs).length ≤ xs.length := List.length_filter_le _ _
theorem freed_wide (who : Int) (l : List S51) (h : ∀ x ∈ l, x.f1.length < 1000) : ∀ x ∈ freed who l, x.f1.length < 1000 := by
  intro x hx
  obtain ⟨y, hy, rfl⟩ := List.mem_map.mp (List.mem_filter.mp hx).1
  exact Nat.lt_of_le_of_lt (but_le who y.f1) (h y hy)
theorem but_not {who : Int} {xs : List Int} (h : cont xs who = false) : but who xs = xs := by
  unfold but
  refine List.filter_eq_self.mpr fun x hx => ?_
  have h2 : ¬ who ∈ xs := of_decide_eq_false h
  have h3 : (x == who) = false := beq_eq_false_iff_ne.mpr (fun e => h2 (e ▸ hx))
  rw [h3]; rfl
set_option maxHeartbeats 8000000 in
set_option maxRecDepth 100000 in
theorem free_none (who : Int) (h : Tab w p rv l) (hn : held l who = 0) : Calls Try.prog 7 #[.pointer (some ⟨p.g, 0, none⟩), .int .i64 who] w fun e w' => e = .returned (.int .i64 0) ∧ Below w.heap.size w w' := by
  have b0 := Aside0.mk (below_alloc (Below.refl w.heap.size w) (.cells #[.int .i64 who] 3))
  have H2 := Aside0.mk (h.below b0.out)
  have HN := Aside0.mk hn
  have hq := heap_alloc_new w (.cells #[.int .i64 who] 3)
  have q0 : (w.alloc (.cells #[.int .i64 who] 3)).cell? ⟨w.heap.size, 0, none⟩ = some (.int .i64 who) := blk_cell hq 0
  clear h hn hq
  go_enter Try.func7, Try.ntmps7
  go_wp2_with (first | (go_at_call 12; fail))
  refine (held_calls H2.out who).mono ?_
  rw [HN.out]
  rintro e w1 ⟨rfl, hb⟩
  have HB1 := Aside0.mk (below_step b0.out hb)
  clear hb
  go_wp2
  go_ret
  exact ⟨rfl, HB1.out⟩
set_option maxHeartbeats 8000000 in
set_option maxRecDepth 100000 in
theorem free_nil (who : Int) : Calls Try.prog 7 #[.pointer none, .int .i64 who] w fun e w' => e = .returned (.int .i64 0) ∧ Below w.heap.size w w' := by
  have b0 := Aside0.mk (below_alloc (Below.refl w.heap.size w) (.cells #[.int .i64 who] 3))
  have hq := heap_alloc_new w (.cells #[.int .i64 who] 3)
  have q0 : (w.alloc (.cells #[.int .i64 who] 3)).cell? ⟨w.heap.size, 0, none⟩ = some (.int .i64 who) := blk_cell hq 0
  clear hq
  go_enter Try.func7, Try.ntmps7
  go_wp2_with (first | (go_at_call 12; fail))
  refine (held_nil who _).mono ?_
  rintro e w1 ⟨rfl, hb⟩
  have HB1 := Aside0.mk (below_step b0.out hb)
  clear hb
  go_wp2
  go_ret
  exact ⟨rfl, HB1.out⟩
/-- the table that is being built -/
structure Mid (w1 : World) (p : At) (gR : Nat) (who : Int) (l : List S51) (j : Nat) (v : Value) (W : World) : Prop where
  out : Kd.R k51 51 W p.B (fun k => k ≠ p.g ∧ k ≠ gR) v (freed who (l.take j))
  own : ∀ k, v.ownBlock = some k → w1.heap.size ≤ k
  bel : Below w1.heap.size w1 W
variable {gR : Nat} {who : Int} {j : Nat} {w1 : World} {v : Value} {W : World}
theorem Mid.below (h : Mid w1 p gR who l j v W) (hb : Below W.heap.size W w') : Mid w1 p gR who l j v w' := ⟨Kd.R_below h.out hb, h.own, below_step h.bel hb⟩
theorem Mid.small (h : Mid w1 p gR who l j v W) (hl : l.length < 1000000) (hj : j ≤ l.length) : (freed who (l.take j)).length < 1000000 := Nat.lt_of_le_of_lt (freed_len who _) (by rw [List.length_take]; omega)
/-- an element has been put -/
theorem Mid.put (h : Mid w1 p gR who l j v W) (hj : j < l.length) {x : S51} (hx : rd_T51 l (j : Int) = x) {B : List Int} (hB : but who x.f1 = B) (he : B.isEmpty = false) {W2 : World} {v2 : Value} (hw : Below W.heap.size W W2) (hR : Kd.R k51 51 w' p.B (fun k => k ≠ p.g ∧ k ≠ gR) v2 (freed who (l.take j) ++ [⟨x.f0, B, x.f2⟩])) (hb : Below p.B w1 w') (hG : W2.grownBy w' v.ownBlock) (hO : v2.ownBlock = v.ownBlock ∨ ∃ b, v2.ownBlock = some b ∧ W2.heap.size ≤ b) :
    Mid w1 p gR who l (j + 1) v2 w' := by
  have h2 := h.below hw
  refine ⟨?_, fun k hk => ?_, ⟨hb.os, hb.tape, hb.output, hb.size, fun k hk => ?_⟩⟩
  · rw [freed_succ who l j hj, hx, hB, he]
    exact hR
  · rcases hO with e | ⟨b, e, hb⟩
    · exact h.own k (e ▸ hk)
    · rw [e] at hk
      obtain rfl := Option.some.inj hk
      exact Nat.le_trans h2.bel.size hb
  · exact (hG.block k (Nat.lt_of_lt_of_le hk h2.bel.size) (fun e => by have := h.own k e.symm; omega)).trans (h2.bel.block k hk)
theorem Mid.skip (h : Mid w1 p gR who l j v W) (hj : j < l.length) {x : S51} (hx : rd_T51 l (j : Int) = x) {B : List Int} (hB : but who x.f1 = B) (he : B.isEmpty = true) : Mid w1 p gR who l (j + 1) v W := by
  refine ⟨?_, h.own, h.bel⟩
  rw [freed_succ who l j hj, hx, hB, he, if_pos rfl, List.append_nil]
  exact h.out
set_option maxHeartbeats 2000000 in
set_option maxRecDepth 100000 in
theorem free_calls (h : Tab w p rv l) (who : Int) (hn : held l who ≠ 0) :
    Calls Try.prog 7 #[.pointer (some ⟨p.g, 0, none⟩), .int .i64 who] w fun e w' => e = .returned (.int .i64 (held l who : Nat)) ∧ (∃ rv', Tab w' p rv' (freed who l)) ∧ Below p.B w w' ∧ Far p.g rv.ownBlock w w' := by
  have hl0 : 0 < l.length := Nat.lt_of_lt_of_le (Nat.pos_of_ne_zero hn) (held_le l who)
  obtain ⟨gR, c, hrv⟩ := tab_row h hl0
  subst hrv
  have b0 := Aside0.mk (below_alloc (Below.refl w.heap.size w) (.cells #[.int .i64 who] 3))
  have H2 := Aside0.mk (h.below b0.out)
  have HB0 := Aside0.mk h.base
  have hq := heap_alloc_new w (.cells #[.int .i64 who] 3)
  have q0 : (w.alloc (.cells #[.int .i64 who] 3)).cell? ⟨w.heap.size, 0, none⟩ = some (.int .i64 who) := blk_cell hq 0
  obtain ⟨nh, hnh⟩ : ∃ nh, held l who = nh := ⟨_, rfl⟩
  rw [hnh] at hn ⊢
  have d0 : decide ((nh : Int) = 0) = false := decide_eq_false (by omega)
  have d1 : ((nh : Int) == 0) = false := beq_eq_false_iff_ne.mpr (by omega)
  have d2 : ¬ (nh : Int) = 0 := by omega
  have d3 : ¬ nh = 0 := hn
  have NH := Aside0.mk hnh
  clear h hq hl0 hn hnh
  go_enter Try.func7, Try.ntmps7
  go_wp2_with (first | (go_at_call 12; fail))
  refine (held_calls H2.out who).mono ?_
  rw [NH.out]
  rintro e w1 ⟨rfl, hb⟩
  have HB1 := Aside0.mk (below_step b0.out hb)
  have H1 := Aside0.mk (H2.out.below hb)
  have Q1 := Aside0.mk (pw_cell_below hb q0)
  have cg : w1.cell? ⟨p.g, 0, none⟩ = some (.slice (some ⟨gR, 0, none⟩) l.length c) := blk_cell H1.out.cells 0
  have HM := Aside0.mk (⟨Kd.R_nil _ _ _ _ _, fun k hk => by simp [Value.ownBlock] at hk, Below.refl _ _⟩ : Mid w1 p gR who l 0 (.slice none 0 0) w1)
  have HW := Aside0.mk H1.out.wide
  have HS := Aside0.mk H1.out.small
  have GR := Aside0.mk (show gR < w1.heap.size from Kd.R_lt H1.out.row gR (by simp [Value.ownBlock]))
  have GG := Aside0.mk (show p.g < w1.heap.size from blk_lt H1.out.cells)
  have PB := Aside0.mk H1.out.base
  have QL := Aside0.mk (show w.heap.size < w1.heap.size from cell_lt Q1.out)
  clear hb q0 b0 H2
  go_wp2
  clear d0 d1 d2 d3 cg
  go_loopw [6, 19] (fun v6 v19 w' => ∃ (j : Nat), j ≤ l.length ∧ v19 = .int .i64 (j : Int) ∧ Aside0 (Mid w1 p gR who l j v6 w')) (fun _ i _ => l.length - (intOf i).toNat)
  case atStart => exact ⟨0, Nat.zero_le _, rfl, HM⟩
  case round =>
    clear HM
    obtain ⟨j, hj, rfl, HM⟩ := hrel
    by_cases hlt : j < l.length
    · have q0 : decide ((j : Int) < (l.length : Int)) = true := decide_eq_true (by omega)
      have q0n : decide (j < l.length) = true := decide_eq_true hlt
      have q2 : (0 : Int) ≤ j := by omega
      have q3 : (j : Int) < (l.length : Int) := by omega
      obtain ⟨A1, c1, y0, y1, y2, hlen, hC1, hR1⟩ := tab_at H1.out j hlt
      have hmem : rd_T51 l (j : Int) ∈ l := by
        have e : rd_T51 l (j : Int) = l[j] := by simp [rd_T51, List.getD_eq_getElem?_getD, List.getElem?_eq_getElem hlt]
        rw [e]; exact List.getElem_mem hlt
      have hw1 := HW.out _ hmem
      have hwj := Aside0.mk (num1 (Nat.le_refl j) (Nat.lt_trans hlt HS.out))
      obtain ⟨x, hx⟩ : ∃ x, rd_T51 l (j : Int) = x := ⟨_, rfl⟩
      have HX := Aside0.mk hx
      rw [hx] at y0 y1 y2 hlen hC1 hw1 hR1
      clear hx hmem
      have y0 := pw_cell_below HM.out.bel y0
      have y1 := pw_cell_below HM.out.bel y1
      have y2 := pw_cell_below HM.out.bel y2
      have z0 := pw_cell_below HM.out.bel Q1.out
      have hnb := heap_alloc_new wr (.cells #[.string x.f0, .slice A1 x.f1.length c1, .int .i64 x.f2] 51)
      have HNB := Aside0.mk hnb
      have z1 : (wr.alloc (.cells #[.string x.f0, .slice A1 x.f1.length c1, .int .i64 x.f2] 51)).cell? ⟨wr.heap.size, 1, none⟩ = some (.slice A1 x.f1.length c1) := blk_cell hnb 1
      have za : (wr.alloc (.cells #[.string x.f0, .slice A1 x.f1.length c1, .int .i64 x.f2] 51)).cell? ⟨w.heap.size, 0, none⟩ = some (.int .i64 who) := cell_al _ z0
      have HCC := Aside0.mk (Kd.C_alloc (Kd.C_below hC1 HM.out.bel) (.cells #[.string x.f0, .slice A1 x.f1.length c1, .int .i64 x.f2] 51))
      have HLE := Aside0.mk hlen
      have HW1 := Aside0.mk (Nat.lt_trans hw1 (by decide : 1000 < 1000000))
      have HR1 := Aside0.mk hR1
      clear hnb hC1 hlen hw1 hR1
      go_wp2_with (first | (go_at_call 13; fail))
      refine (contains_calls A1 c1 x.f1 who _ HCC.out HLE.out HW1.out).mono ?_
      rintro e w2 ⟨rfl, hb⟩
      have bb := below_step (below_alloc (Below.refl wr.heap.size wr) (.cells #[.string x.f0, .slice A1 x.f1.length c1, .int .i64 x.f2] 51)) hb
      have N2 := blk_below HNB.out hb
      have x0 : w2.cell? ⟨wr.heap.size, 0, none⟩ = some (.string x.f0) := blk_cell N2 0
      have x1 : w2.cell? ⟨wr.heap.size, 1, none⟩ = some (.slice A1 x.f1.length c1) := blk_cell N2 1
      have x2 : w2.cell? ⟨wr.heap.size, 2, none⟩ = some (.int .i64 x.f2) := blk_cell N2 2
      have HN2 := Aside0.mk N2
      have HC2 := Aside0.mk (Kd.C_below HCC.out hb)
      have BL := Aside0.mk (show w1.heap.size ≤ wr.heap.size from HM.out.bel.size)
      have zb : w2.cell? ⟨w.heap.size, 0, none⟩ = some (.int .i64 who) := pw_cell_below hb za
      have BB := Aside0.mk bb
      have U6 := Aside0.mk (show ∀ k, u6.ownBlock = some k → k < wr.heap.size from fun k hk => Kd.R_lt HM.out.out k hk)
      clear bb hb y0 y1 y2 z0 z1 za HCC HNB N2
      cases hc : cont x.f1 who with
      | true =>
        go_wp2_with (first | (go_at_call 15; fail))
        refine (clone_calls A1 c1 x.f1 w2 HC2.out HW1.out).mono ?_
        rintro e w3 ⟨v3, rfl, hR3, hb⟩
        obtain ⟨A3, c3, rfl⟩ := Kd.R_slice hR3
        have zc : w3.cell? ⟨w.heap.size, 0, none⟩ = some (.int .i64 who) := pw_cell_below hb zb
        have HN3 := Aside0.mk (blk_below HN2.out hb)
        have LQ3 := Aside0.mk (show w.heap.size < w3.heap.size from cell_lt zc)
        have S2 := Aside0.mk (show wr.heap.size < w2.heap.size from blk_lt HN2.out)
        have HR3 := Aside0.mk hR3
        have NQ := Aside0.mk (show (Value.slice A3 x.f1.length c3).ownBlock ≠ some w.heap.size from fun e => by have := Kd.R_base hR3 _ e; have h9 : w.heap.size < w2.heap.size := cell_lt zb; omega)
        have W23 := Aside0.mk hb
        clear hR3 hb zb x0 x1 x2 HN2
        go_wp2_with (first | (go_at_call 14; fail))
        refine (delete16_calls who ⟨w.heap.size, 0, none⟩ w2.heap.size (fun _ => True) _ x.f1 w3 HR3.out HW1.out zc LQ3.out NQ.out W23.out.size).mono ?_
        rintro e w4 ⟨v4, rfl, hR4, hb, hO4⟩
        obtain ⟨A4, c4, rfl⟩ := Kd.R_slice hR4
        obtain ⟨B, hB⟩ : ∃ B, but who x.f1 = B := ⟨_, rfl⟩
        rw [hB] at hR4 ⊢
        have EB := Aside0.mk hB
        have n4 := (hb.block wr.heap.size S2.out).trans HN3.out
        have BWX := Aside0.mk (show Below wr.heap.size wr (w4.setCell ⟨wr.heap.size, 1, none⟩ (.slice A4 B.length c4)) from (((BB.out.trans ((W23.out.trans hb).mono (Nat.le_of_lt S2.out))))).setCell (p := ⟨wr.heap.size, 1, none⟩) (Nat.le_refl _) _)
        have RWX := Aside0.mk (show Kd.R (Kd.int .i64) 3 (w4.setCell ⟨wr.heap.size, 1, none⟩ (.slice A4 B.length c4)) p.B (fun k => k ≠ p.g ∧ k ≠ gR ∧ some k ≠ u6.ownBlock) (.slice A4 B.length c4) B from
          Kd.R_mono (Kd.R_lower (Kd.R_far (p := ⟨wr.heap.size, 1, none⟩) (Kd.R_mono (Kd.R_bound hR4) (fun k hk => hk.2.1)) (fun k hk => by have := S2.out; show k ≠ wr.heap.size; omega) _) (by have := S2.out; have := BL.out; have := PB.out; omega)) (fun k hk => (by have := S2.out; have := BL.out; have := GR.out; have := GG.out; exact ⟨by omega, by omega, fun e => by have := U6.out k e.symm; omega⟩)))
        have x0 : w4.cell? ⟨wr.heap.size, 0, none⟩ = some (.string x.f0) := blk_cell n4 0
        have x1 : w4.cell? ⟨wr.heap.size, 1, none⟩ = some (.slice A1 x.f1.length c1) := blk_cell n4 1
        have x2 : w4.cell? ⟨wr.heap.size, 2, none⟩ = some (.int .i64 x.f2) := blk_cell n4 2
        have xf : w4.frozen? ⟨wr.heap.size, 1, none⟩ = false := blk_frozen n4 1
        have n5 := blk_set n4 1 (.slice A4 B.length c4)
        have X0 := Aside0.mk (show (w4.setCell ⟨wr.heap.size, 1, none⟩ (.slice A4 B.length c4)).cell? ⟨wr.heap.size, 0, none⟩ = some (.string x.f0) from blk_cell n5 0)
        have X1 := Aside0.mk (show (w4.setCell ⟨wr.heap.size, 1, none⟩ (.slice A4 B.length c4)).cell? ⟨wr.heap.size, 1, none⟩ = some (.slice A4 B.length c4) from blk_cell n5 1)
        have X2 := Aside0.mk (show (w4.setCell ⟨wr.heap.size, 1, none⟩ (.slice A4 B.length c4)).cell? ⟨wr.heap.size, 2, none⟩ = some (.int .i64 x.f2) from blk_cell n5 2)
        clear n5
        clear hR4 hb hO4 zc HN3 LQ3 S2 HR3 NQ W23 n4 hB
        have OKR := Aside0.mk (show ∀ k, (k ≠ p.g ∧ k ≠ gR ∧ some k ≠ u6.ownBlock) → (k ≠ p.g ∧ k ≠ gR) ∧ some k ≠ u6.ownBlock from fun k hk => ⟨⟨hk.1, hk.2.1⟩, hk.2.2⟩)
        have HMX := Aside0.mk (HM.out.below BWX.out)
        have hj1 := hwj.out
        cases he : (B).isEmpty with
        | true =>
          have l0 : (B).length = 0 := by rw [List.isEmpty_iff.mp he]; rfl
          have d3 : decide ((0 : Int) < ((B).length : Int)) = false := decide_eq_false (by omega)
          have d4 : decide (0 < (B).length) = false := decide_eq_false (by omega)
          have HF := Aside0.mk (HMX.out.skip hlt HX.out EB.out he)
          clear l0 HMX BWX HM RWX he
          go_wp2
          rw [hj1]
          exact ⟨⟨j + 1, hlt, rfl, HF⟩, measn hlt⟩
        | false =>
          have l0 : 0 < (B).length := List.length_pos_iff.mpr (fun e => by rw [e] at he; cases he)
          have d3 : decide ((0 : Int) < ((B).length : Int)) = true := decide_eq_true (by omega)
          have d4 : decide (0 < (B).length) = true := decide_eq_true l0
          have HE := Aside0.mk he
          clear l0 he
          have X0_ := X0.out
          have X1_ := X1.out
          have X2_ := X2.out
          clear X0 X1 X2
          go_wp2_with ((with_reducible refine gate_builtin (b := .append) (xs := #[.tmp 37, .tmp 39]) rfl ?_); at_builtin; refine Kd.R_append k51 (w0 := w1) p.B rfl (.tmp 37) (.tmp 39) 47 51 (.agg #[.string ⟨#[]⟩, .slice none 0 0, .int .i64 0]) 48 rfl Try.underlying47 info51 rfl (by decide) (by decide) u6 (freed who (l.take j)) ⟨x.f0, B, x.f2⟩ [.string x.f0, .slice A4 (B).length c4, .int .i64 x.f2] (fun k => k ≠ p.g ∧ k ≠ gR) (fun k => k ≠ p.g ∧ k ≠ gR ∧ some k ≠ u6.ownBlock) rfl ?aX ?aP ?aK ?aF ?aO ?aB ?aS ?aL ?_)
          case aX => first | rfl | (simp [Act.eval, World.setCell])
          case aP => exact k51_mkM _ p.B _ ⟨x.f0, B, x.f2⟩ RWX.out
          case aK => exact OKR.out
          case aF => exact fun k hk => (by have := HMX.out.bel.size; have := GR.out; have := GG.out; exact ⟨by omega, by omega⟩)
          case aO => exact HMX.out.out
          case aB => exact HMX.out.bel.mono PB.out
          case aS => exact Nat.le_trans PB.out HMX.out.bel.size
          case aL => have := HMX.out.small HS.out hj; omega
          intro v2 w6 hR6 hB6 hG6 hO6
          have HF := Aside0.mk (HM.out.put hlt HX.out EB.out HE.out BWX.out hR6 hB6 hG6 (by first | exact hO6 | simpa [World.setCell] using hO6))
          clear HMX BWX HM RWX hR6 hB6 hG6 hO6
          go_wp2
          rw [hj1]
          exact ⟨⟨j + 1, hlt, rfl, HF⟩, measn hlt⟩
      | false =>
        have EB := Aside0.mk (but_not hc)
        have BWX := Aside0.mk BB.out
        have RWX := Aside0.mk (show Kd.R (Kd.int .i64) 3 w2 p.B (fun k => k ≠ p.g ∧ k ≠ gR ∧ some k ≠ u6.ownBlock) (.slice A1 x.f1.length c1) x.f1 from
          Kd.R_mono (Kd.R_below HR1.out (below_step HM.out.bel BB.out)) (fun k hk => ⟨hk.1, hk.2.1, fun e => by have := HM.out.own k e.symm; omega⟩))
        clear zb
        have OKR := Aside0.mk (show ∀ k, (k ≠ p.g ∧ k ≠ gR ∧ some k ≠ u6.ownBlock) → (k ≠ p.g ∧ k ≠ gR) ∧ some k ≠ u6.ownBlock from fun k hk => ⟨⟨hk.1, hk.2.1⟩, hk.2.2⟩)
        have HMX := Aside0.mk (HM.out.below BWX.out)
        have hj1 := hwj.out
        cases he : (x.f1).isEmpty with
        | true =>
          have l0 : (x.f1).length = 0 := by rw [List.isEmpty_iff.mp he]; rfl
          have d3 : decide ((0 : Int) < ((x.f1).length : Int)) = false := decide_eq_false (by omega)
          have d4 : decide (0 < (x.f1).length) = false := decide_eq_false (by omega)
          have HF := Aside0.mk (HMX.out.skip hlt HX.out EB.out he)
          clear l0 HMX BWX HM RWX he
          go_wp2
          rw [hj1]
          exact ⟨⟨j + 1, hlt, rfl, HF⟩, measn hlt⟩
        | false =>
          have l0 : 0 < (x.f1).length := List.length_pos_iff.mpr (fun e => by rw [e] at he; cases he)
          have d3 : decide ((0 : Int) < ((x.f1).length : Int)) = true := decide_eq_true (by omega)
          have d4 : decide (0 < (x.f1).length) = true := decide_eq_true l0
          have HE := Aside0.mk he
          clear l0 he
          go_wp2_with ((with_reducible refine gate_builtin (b := .append) (xs := #[.tmp 37, .tmp 39]) rfl ?_); at_builtin; refine Kd.R_append k51 (w0 := w1) p.B rfl (.tmp 37) (.tmp 39) 47 51 (.agg #[.string ⟨#[]⟩, .slice none 0 0, .int .i64 0]) 48 rfl Try.underlying47 info51 rfl (by decide) (by decide) u6 (freed who (l.take j)) ⟨x.f0, x.f1, x.f2⟩ [.string x.f0, .slice A1 (x.f1).length c1, .int .i64 x.f2] (fun k => k ≠ p.g ∧ k ≠ gR) (fun k => k ≠ p.g ∧ k ≠ gR ∧ some k ≠ u6.ownBlock) rfl ?aX ?aP ?aK ?aF ?aO ?aB ?aS ?aL ?_)
          case aX => first | rfl | (simp [Act.eval, World.setCell])
          case aP => exact k51_mkM _ p.B _ ⟨x.f0, x.f1, x.f2⟩ RWX.out
          case aK => exact OKR.out
          case aF => exact fun k hk => (by have := HMX.out.bel.size; have := GR.out; have := GG.out; exact ⟨by omega, by omega⟩)
          case aO => exact HMX.out.out
          case aB => exact HMX.out.bel.mono PB.out
          case aS => exact Nat.le_trans PB.out HMX.out.bel.size
          case aL => have := HMX.out.small HS.out hj; omega
          intro v2 w6 hR6 hB6 hG6 hO6
          have HF := Aside0.mk (HM.out.put hlt HX.out EB.out HE.out BWX.out hR6 hB6 hG6 (by first | exact hO6 | simpa [World.setCell] using hO6))
          clear HMX BWX HM RWX hR6 hB6 hG6 hO6
          go_wp2
          rw [hj1]
          exact ⟨⟨j + 1, hlt, rfl, HF⟩, measn hlt⟩
    · have q0 : decide ((j : Int) < (l.length : Int)) = false := decide_eq_false (by omega)
      have q0n : decide (j < l.length) = false := decide_eq_false hlt
      have e1 := Aside0.mk (show l.take j = l from List.take_of_length_le (by omega))
      have hm := HM.out
      obtain ⟨A6, c6, rfl⟩ := Kd.R_slice hm.out
      have hR := hm.out
      rw [e1.out] at hR ⊢
      have cg := pw_cell_below hm.bel (blk_cell H1.out.cells 0)
      have g7 := blk_below H1.out.cells hm.bel
      have fg : wr.frozen? ⟨p.g, 0, none⟩ = false := blk_frozen g7 0
      have TT := Aside0.mk (tab_put g7 (Kd.R_mono hR (fun k hk => hk.1)) H1.out.bg (freed_wide who l HW.out) (Nat.lt_of_le_of_lt (freed_len who l) HS.out))
      have BT := Aside0.mk (((HB1.out.mono HB0.out).trans (hm.bel.mono PB.out)).setCell (p := ⟨p.g, 0, none⟩) H1.out.bg (.slice A6 (freed who l).length c6))
      have FT := Aside0.mk (show Far p.g (Value.slice (some ⟨gR, 0, none⟩) l.length c).ownBlock w (wr.setCell ⟨p.g, 0, none⟩ (.slice A6 (freed who l).length c6)) from fun q hq h1 h2 => (Below.heap_setCell _ _ _ _ h1).trans ((below_step HB1.out hm.bel).block q hq))
      clear hm hR g7 HM
      go_wp2
      go_ret
      exact ⟨rfl, ⟨_, TT.out⟩, BT.out, FT.out⟩
end Go.Proofs.Ytonbonailghjjaa.Lk
