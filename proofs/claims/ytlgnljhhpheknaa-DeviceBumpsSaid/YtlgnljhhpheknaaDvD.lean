/- A disk's power (Fail, Act, Up, Acts, Dead), walked, where no block was written. -/
import Derived.Test.YtlgnljhhpheknaaDvC
namespace Go.Proofs.Ytlgnljhhpheknaa.Dv
open Go.RowKit Go.Proofs.YtlgnljhhpheknaaW.PrintWords Go.Proofs.YtlgnljhhpheknaaW.PrintLast Go.Proofs.YtlgnljhhpheknaaW.PrintMore Go.Proofs.Ytlgnljhhpheknaa.XB Go.Proofs.Ytlgnljhhpheknaa.PDeviceBumps
attribute [local go_sem] max2_int min2_int max_two min_two max_three min_three max_four min_four
set_option linter.unusedVariables false
set_option linter.unusedSimpArgs false
set_option maxHeartbeats 8000000 in
set_option maxRecDepth 100000 in
theorem fail_dead (g : Nat) (sv mv rv cv : Value) (a F : Int) (w : World) (h : DiskC w g sv mv rv a cv true) :
    Calls Try.prog 23 #[.pointer (some ⟨g, 0, none⟩), .int .u64 F] w fun e w' => e = .returned (.tuple #[]) ∧ w' = w := by
  have c5 : w.cell? ⟨g, 5, none⟩ = some (.bool true) := blk_cell h 5
  clear h
  go_enter Try.func23, Try.ntmps23
  go_wp2
  (first | go_end0 | ((try simp only [Exit.inBlock, Exit.then]); refine bodyPost_ret (results_none rfl _ _ _) rfl ?_))
  exact ⟨rfl, rfl⟩
set_option maxHeartbeats 8000000 in
set_option maxRecDepth 100000 in
theorem forget_calls (g : Nat) (sv mv rv cv : Value) (a : Int) (dead : Bool) (w : World) (h : DiskC w g sv mv rv a cv dead) :
    Calls Try.prog 31 #[.pointer (some ⟨g, 0, none⟩)] w fun e w' => e = .returned (.tuple #[]) ∧ w'.heap[w.heap.size]? = some (.map #[] 0) ∧ DiskC w' g sv (.map (some w.heap.size)) (.slice none 0 0) a cv dead ∧ Upd (fun k => k = g) w w' := by
  have hmm := @run_makeMap Try.prog
  have h1 := blk_alloc h (.map #[] 0)
  have hs0 := blk_lt h
  have c1 : (w.alloc (.map #[] 0)).cell? ⟨g, 1, none⟩ = some mv := blk_cell h1 1
  have f1 : (w.alloc (.map #[] 0)).frozen? ⟨g, 1, none⟩ = false := blk_frozen h1 1
  have h2 := blk_set h1 1 (.map (some w.heap.size))
  have c2 : ((w.alloc (.map #[] 0)).setCell ⟨g, 1, none⟩ (.map (some w.heap.size))).cell? ⟨g, 2, none⟩ = some rv := blk_cell h2 2
  have f2 : ((w.alloc (.map #[] 0)).setCell ⟨g, 1, none⟩ (.map (some w.heap.size))).frozen? ⟨g, 2, none⟩ = false := blk_frozen h2 2
  have H := Aside0.mk (blk_set h2 2 (.slice none 0 0))
  have HN := Aside0.mk hs0
  have c0 : w.cell? ⟨g, 1, none⟩ = some mv := blk_cell h 1
  have c3 : w.cell? ⟨g, 2, none⟩ = some rv := blk_cell h 2
  clear h h1 h2 hs0
  go_enter Try.func31, Try.ntmps31
  go_wp2
  (first | go_end0 | ((try simp only [Exit.inBlock, Exit.then]); refine bodyPost_ret (results_none rfl _ _ _) rfl ?_))
  refine ⟨rfl, ?_, H.out, (((Upd.refl (fun k => k = g) w).alloc _).setCell (p := ⟨g, 1, none⟩) rfl _).setCell (p := ⟨g, 2, none⟩) rfl _⟩
  have hn := HN.out
  rw [Below.heap_setCell _ _ _ _ (by show w.heap.size ≠ g; omega), Below.heap_setCell _ _ _ _ (by show w.heap.size ≠ g; omega)]
  exact heap_alloc_new w _
set_option maxHeartbeats 8000000 in
set_option maxRecDepth 100000 in
theorem fail_calls (g : Nat) (sv mv cv : Value) (a F : Int) (w : World) (h : DiskC w g sv mv (.slice none 0 0) a cv false) :
    Calls Try.prog 23 #[.pointer (some ⟨g, 0, none⟩), .int .u64 F] w fun e w' => e = .returned (.tuple #[]) ∧ w'.heap[w.heap.size]? = some (.map #[] 0) ∧ DiskC w' g sv (.map (some w.heap.size)) (.slice none 0 0) a cv true ∧ Upd (fun k => k = g) w w' := by
  have H := Aside0.mk h
  have c5 : w.cell? ⟨g, 5, none⟩ = some (.bool false) := blk_cell h 5
  have c2 : w.cell? ⟨g, 2, none⟩ = some (.slice none 0 0) := blk_cell h 2
  clear h
  go_enter Try.func23, Try.ntmps23
  go_wp2
  go_loopw [21] (fun i w' => i = .int .i64 0 ∧ w' = w) (fun i _ => 0)
  case atStart => exact ⟨rfl, rfl⟩
  case round =>
    obtain ⟨rfl, rfl⟩ := hrel
    go_wp2_with (first | (go_at_call 31; fail))
    refine (forget_calls g sv mv _ cv a false _ H.out).mono ?_
    rintro e w1 ⟨rfl, hm, hd, hu⟩
    have HM := Aside0.mk hm
    have HD := Aside0.mk hd
    have HU := Aside0.mk hu
    have d5 : w1.cell? ⟨g, 5, none⟩ = some (.bool false) := blk_cell hd 5
    have f5 : w1.frozen? ⟨g, 5, none⟩ = false := blk_frozen hd 5
    clear hm hd hu c5 c2
    go_wp2
    (first | go_end0 | ((try simp only [Exit.inBlock, Exit.then]); refine bodyPost_ret (results_none rfl _ _ _) rfl ?_))
    have hu := HU.out
    have hlt := blk_lt H.out
    refine ⟨rfl, ?_, blk_set HD.out 5 (.bool true), HU.out.setCell (p := ⟨g, 5, none⟩) rfl _⟩
    rw [Below.heap_setCell _ _ _ _ (by show _ ≠ g; omega)]
    exact HM.out
/-- the error of an act -/
def errP (b : Bool) : Int := if b then 7 else 0
/-- whether the power fails at an act -/
def hits (L : List S48) (a : Int) : Bool := L.any (fun x => x.f0 == a)
theorem hits_at {L : List S48} {a : Int} {j : Nat} (hj : j < L.length) (h : (rd_T48 L ((j : Nat) : Int)).f0 = a) : hits L a = true := by
  refine List.any_eq_true.mpr ⟨L[j], List.getElem_mem _, ?_⟩
  have e : rd_T48 L ((j : Nat) : Int) = L[j] := by simp [rd_T48, List.getElem?_eq_getElem hj]
  rw [e] at h
  exact beq_iff_eq.mpr h
theorem hits_none {L : List S48} {a : Int} (h : ∀ q, q < L.length → (rd_T48 L ((q : Nat) : Int)).f0 ≠ a) : hits L a = false := by
  refine List.any_eq_false.mpr fun x hx => ?_
  obtain ⟨j, hj, rfl⟩ := List.getElem_of_mem hx
  have := h j hj
  have e : rd_T48 L ((j : Nat) : Int) = L[j] := by simp [rd_T48, List.getElem?_eq_getElem hj]
  rw [e] at this
  simpa using this
set_option maxHeartbeats 8000000 in
set_option maxRecDepth 100000 in
theorem act_none (w : World) : Calls Try.prog 20 #[.pointer none] w fun e w' => e = .returned (.int .i64 7) ∧ w' = w := by
  go_enter Try.func20, Try.ntmps20
  go_wp2
  go_ret
  exact ⟨rfl, rfl⟩
set_option maxHeartbeats 8000000 in
set_option maxRecDepth 100000 in
theorem act_dead (g : Nat) (sv mv rv cv : Value) (a : Int) (w : World) (h : DiskC w g sv mv rv a cv true) :
    Calls Try.prog 20 #[.pointer (some ⟨g, 0, none⟩)] w fun e w' => e = .returned (.int .i64 7) ∧ w' = w := by
  have c5 : w.cell? ⟨g, 5, none⟩ = some (.bool true) := blk_cell h 5
  clear h
  go_enter Try.func20, Try.ntmps20
  go_wp2
  go_ret
  exact ⟨rfl, rfl⟩
theorem measn2 {j n : Nat} (h : j < n) : n - ((j : Int) + 1).toNat < n - ((j : Int)).toNat := by omega
set_option maxHeartbeats 8000000 in
set_option maxRecDepth 100000 in
theorem act_calls (g : Nat) (sv mv cv : Value) (L : List S48) (lo hi : Nat) (a : Int) (w : World) (h : DiskC w g sv mv (.slice none 0 0) a cv false) (hc : Cuts w cv L lo hi) (hg : hi ≤ g) (a0 : 0 ≤ a) (a1 : a < 4611686018427387904) :
    Calls Try.prog 20 #[.pointer (some ⟨g, 0, none⟩)] w fun e w' => ∃ mv', e = .returned (.int .i64 (errP (hits L (a + 1)))) ∧ DiskC w' g sv mv' (.slice none 0 0) (a + 1) cv (hits L (a + 1)) ∧ Upd (fun k => k = g) w w' := by
  have wa : wrap64 (a + 1) = a + 1 := w64 (by omega) (by omega)
  have c5 : w.cell? ⟨g, 5, none⟩ = some (.bool false) := blk_cell h 5
  have c3 : w.cell? ⟨g, 3, none⟩ = some (.int .i64 a) := blk_cell h 3
  have f3 : w.frozen? ⟨g, 3, none⟩ = false := blk_frozen h 3
  have h1 := blk_set h 3 (.int .i64 (a + 1))
  have c4 : (w.setCell ⟨g, 3, none⟩ (.int .i64 (a + 1))).cell? ⟨g, 4, none⟩ = some cv := blk_cell h1 4
  have H0 := Aside0.mk h
  have H1 := Aside0.mk h1
  have HC := Aside0.mk (Cuts.move hc (w' := w.setCell ⟨g, 3, none⟩ (.int .i64 (a + 1))) (fun k _ hk => Below.heap_setCell _ _ _ _ (by show k ≠ g; omega)))
  have HU := Aside0.mk (Upd.setCell (Upd.refl (fun k => k = g) w) (p := ⟨g, 3, none⟩) rfl (.int .i64 (a + 1)))
  obtain ⟨A, c, rfl, hL, hcr⟩ := hc
  clear hcr
  clear h h1
  go_enter Try.func20, Try.ntmps20
  go_wp2
  go_loopw [25] (fun i w' => ∃ j : Nat, j ≤ L.length ∧ i = .int .i64 (j : Int) ∧ (∀ q, q < j → (rd_T48 L ((q : Nat) : Int)).f0 ≠ a + 1) ∧ Aside0 (DiskC w' g sv mv (.slice none 0 0) (a + 1) (.slice A L.length c) false) ∧ Aside0 (Cuts w' (.slice A L.length c) L lo hi) ∧ Aside0 (Upd (fun k => k = g) w w')) (fun i _ => L.length - (intOf i).toNat)
  case atStart => exact ⟨0, Nat.zero_le _, rfl, fun q hq => absurd hq (Nat.not_lt_zero q), H1, HC, HU⟩
  case round =>
    clear H1 HC HU c5 c3 f3 c4
    obtain ⟨j, hj, rfl, hl, H, HC, HU⟩ := hrel
    have HL := Aside0.mk hl
    clear hl
    by_cases hlt : j < L.length
    · have q0 : decide ((j : Int) < (L.length : Int)) = true := decide_eq_true (by omega)
      have q0n : decide (j < L.length) = true := decide_eq_true hlt
      have q2 : (0 : Int) ≤ j := by omega
      have q3 : (j : Int) < (L.length : Int) := by omega
      have hwj : wrap64 ((j : Int) + 1) = (j : Int) + 1 := by unfold wrap64; omega
      obtain ⟨A', c', eA, _, hr⟩ := HC.out
      injection eA with eA1 eA2 eA3
      subst eA1
      subst eA3
      clear eA2
      obtain ⟨ad, hA, hbl, x1, x2⟩ := hr (j : Int) q2 q3
      clear hr
      rw [Int.toNat_natCast] at x1 x2
      subst hA
      go_wp2
      obtain ⟨w1, hw1⟩ : ∃ w1, w1 = wr.alloc (.cells #[.int .i64 (rd_T48 L (j : Int)).f0, .int .u64 (rd_T48 L (j : Int)).f1] 48) := ⟨_, rfl⟩
      rw [← hw1]
      have hn := heap_alloc_new wr (.cells #[.int .i64 (rd_T48 L (j : Int)).f0, .int .u64 (rd_T48 L (j : Int)).f1] 48)
      rw [← hw1] at hn
      have y0 : w1.cell? ⟨wr.heap.size, 0, none⟩ = some (.int .i64 (rd_T48 L (j : Int)).f0) := blk_cell hn 0
      have y1 : w1.cell? ⟨wr.heap.size, 1, none⟩ = some (.int .u64 (rd_T48 L (j : Int)).f1) := blk_cell hn 1
      have hd := blk_alloc H.out (.cells #[.int .i64 (rd_T48 L (j : Int)).f0, .int .u64 (rd_T48 L (j : Int)).f1] 48)
      rw [← hw1] at hd
      have y3 : w1.cell? ⟨g, 3, none⟩ = some (.int .i64 (a + 1)) := blk_cell hd 3
      have HD := Aside0.mk hd
      have HU1 := Aside0.mk (show Upd (fun k => k = g) w w1 from by rw [hw1]; exact HU.out.alloc _)
      have HC1 := Aside0.mk (show Cuts w1 (.slice (some ad) L.length c) L lo hi from Cuts.move HC.out (fun k _ hk => by rw [hw1]; exact Below.heap_alloc wr _ k (by have := blk_lt H.out; omega)))
      clear hn hd x1 x2 H HU HC hbl
      obtain ⟨f0, hf0⟩ : ∃ f0, f0 = (rd_T48 L (j : Int)).f0 := ⟨_, rfl⟩
      have HF := Aside0.mk hf0
      rw [← hf0] at y0 ⊢
      clear hf0 hw1
      by_cases heq : f0 = a + 1
      · have eh : hits L (a + 1) = true := hits_at hlt (HF.out ▸ heq)
        have d0 : decide (f0 = a + 1) = true := decide_eq_true heq
        have EH := Aside0.mk eh
        have d0b : (f0 == a + 1) = true := beq_iff_eq.mpr heq
        clear eh
        subst heq
        go_region
        go_wp2_with (first | (go_at_call 23; fail))
        refine (fail_calls g sv mv _ (a + 1) _ w1.drew HD.out).mono ?_
        rintro e w2 ⟨rfl, hm, hd, hu⟩
        have HD2 := Aside0.mk hd
        have HU2 := Aside0.mk (Upd.trans (Upd.drew HU1.out) hu)
        clear hm hd hu
        go_wp2
        go_ret
        rw [EH.out]
        exact ⟨_, rfl, HD2.out, HU2.out⟩
      · have d0 : decide (f0 = a + 1) = false := decide_eq_false heq
        have d0b : (f0 == a + 1) = false := beq_eq_false_iff_ne.mpr heq
        have HE := Aside0.mk heq
        go_region
        go_wp2
        go_roundw
        case measure => exact measn2 hlt
        case rel => exact ⟨j + 1, hlt, by go_num, fun q hq => by rcases Nat.lt_succ_iff_lt_or_eq.mp hq with h | rfl; exact HL.out q h; exact HF.out ▸ HE.out, HD, HC1, ⟨HU1.out.drew⟩⟩
    · have q0 : decide ((j : Int) < (L.length : Int)) = false := decide_eq_false (by omega)
      have q0n : decide (j < L.length) = false := decide_eq_false hlt
      have E1 := Aside0.mk (hits_none (L := L) (a := a + 1) (fun q hq => HL.out q (by omega)))
      go_wp2
      go_ret
      rw [E1.out]
      exact ⟨mv, rfl, H.out, HU.out⟩
end Go.Proofs.Ytlgnljhhpheknaa.Dv
