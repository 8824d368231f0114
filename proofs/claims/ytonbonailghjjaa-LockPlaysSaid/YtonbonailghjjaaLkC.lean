/- slices.IndexFunc and slices.DeleteFunc of numbers, with the literals that keep all but one, walked. -/
import Derived.Test.YtonbonailghjjaaLkB
import Derived.Laws.CopyOwn
namespace Go.Proofs.Ytonbonailghjjaa.Lk
open Go.RowKit Go.Proofs.YtonbonailghjjaaW.PrintWords Go.Proofs.YtonbonailghjjaaW.PrintLast Go.Proofs.YtonbonailghjjaaW.PrintMore Go.Proofs.Ytonbonailghjjaa.XB Go.Proofs.Ytonbonailghjjaa.PLockMost
attribute [local go_sem] max2_int min2_int max_two min_two max_three min_three max_four min_four
set_option linter.unusedVariables false
set_option linter.unusedSimpArgs false
/-- the first place of a number -/
def idxW (who : Int) (xs : List Int) : Int := match (List.range xs.length).find? (fun (j : Nat) => xs.getD j 0 == who) with | some j => (j : Int) | none => -1
theorem idxW_at {who : Int} {xs : List Int} {j : Nat} (hj : j < xs.length) (hb : (xs.getD j 0 == who) = true) (hl : ∀ q, q < j → (xs.getD q 0 == who) = false) : idxW who xs = (j : Int) := by
  have h : (List.range xs.length).find? (fun (j : Nat) => xs.getD j 0 == who) = some j := List.find?_range_eq_some.mpr ⟨hb, List.mem_range.mpr hj, fun q hq => by rw [hl q hq]; rfl⟩
  rw [idxW, h]
theorem idxW_none {who : Int} {xs : List Int} (hl : ∀ q, q < xs.length → (xs.getD q 0 == who) = false) : idxW who xs = -1 := by
  have h : (List.range xs.length).find? (fun (j : Nat) => xs.getD j 0 == who) = none := List.find?_eq_none.mpr fun q hq => by rw [hl q (List.mem_range.mp hq)]; decide
  rw [idxW, h]
theorem idxW_cases (who : Int) (xs : List Int) : (idxW who xs = -1 ∧ ∀ q, q < xs.length → (xs.getD q 0 == who) = false) ∨ ∃ j : Nat, idxW who xs = (j : Int) ∧ j < xs.length ∧ (xs.getD j 0 == who) = true ∧ ∀ q, q < j → (xs.getD q 0 == who) = false := by
  unfold idxW
  cases h : (List.range xs.length).find? (fun (j : Nat) => xs.getD j 0 == who) with
  | none => exact .inl ⟨rfl, fun q hq => by have := List.find?_eq_none.mp h q (List.mem_range.mpr hq); simpa using this⟩
  | some j =>
    obtain ⟨h1, h2, h3⟩ := List.find?_range_eq_some.mp h
    exact .inr ⟨j, rfl, List.mem_range.mp h2, h1, fun q hq => by have := h3 q hq; simpa using this⟩
/-- all but one -/
def but (who : Int) (xs : List Int) : List Int := xs.filter (fun x => !(x == who))
theorem but_none {who : Int} {xs : List Int} (hl : ∀ q, q < xs.length → (xs.getD q 0 == who) = false) : but who xs = xs := by
  unfold but
  refine List.filter_eq_self.mpr fun x hx => ?_
  obtain ⟨j, hj, rfl⟩ := List.getElem_of_mem hx
  have := hl j hj
  rw [List.getD_eq_getElem?_getD, List.getElem?_eq_getElem hj] at this
  have h2 : (xs[j] == who) = false := this
  rw [h2]; rfl
theorem but_succ (who : Int) (xs : List Int) (j : Nat) (hj : j < xs.length) : but who (xs.take (j + 1)) = but who (xs.take j) ++ (if xs.getD j 0 == who then [] else [xs.getD j 0]) := by
  have e : xs.getD j 0 = xs[j] := by rw [List.getD_eq_getElem?_getD, List.getElem?_eq_getElem hj]; rfl
  unfold but
  rw [e, List.take_succ_eq_append_getElem hj, List.filter_append]
  congr 1
  by_cases c : (xs[j] == who) = true
  · rw [if_pos c]; simp [c]
  · rw [if_neg c]; simp [c]
theorem but_len (who : Int) (xs : List Int) (j : Nat) : (but who (xs.take j)).length ≤ j := Nat.le_trans (List.length_filter_le _ _) (by rw [List.length_take]; omega)
/-- a row that is being rewritten: its first i are those of the first j that stay, from j on it is as it was -/
structure Half (who : Int) (xs ys : List Int) (i j : Nat) : Prop where
  len : ys.length = xs.length
  now : ys.take i = but who (xs.take j)
  nowl : i = (but who (xs.take j)).length
  rest : ∀ k, j ≤ k → ys.getD k 0 = xs.getD k 0
theorem Half.first {who : Int} {xs : List Int} {j : Nat} (hj : j < xs.length) (hl : ∀ q, q < j → (xs.getD q 0 == who) = false) : Half who xs xs j j := by
  have e : but who (xs.take j) = xs.take j := by
    refine but_none fun q hq => ?_
    rw [List.length_take] at hq
    have : (xs.take j).getD q 0 = xs.getD q 0 := by rw [List.getD_eq_getElem?_getD, List.getElem?_take, if_pos (by omega), ← List.getD_eq_getElem?_getD]
    rw [this]
    exact hl q (by omega)
  exact ⟨rfl, e.symm, by rw [e, List.length_take]; omega, fun _ _ => rfl⟩
theorem Half.drop {who : Int} {xs ys : List Int} {i j : Nat} (h : Half who xs ys i j) (hj : j < xs.length) (hb : (xs.getD j 0 == who) = true) : Half who xs ys i (j + 1) := by
  have e := but_succ who xs j hj
  rw [if_pos hb, List.append_nil] at e
  exact ⟨h.len, by rw [e]; exact h.now, by rw [e]; exact h.nowl, fun k hk => h.rest k (by omega)⟩
theorem Half.keep {who : Int} {xs ys : List Int} {i j : Nat} (h : Half who xs ys i j) (hij : i < j) (hj : j < xs.length) (hb : (xs.getD j 0 == who) = false) : Half who xs (ys.set i (xs.getD j 0)) (i + 1) (j + 1) := by
  have e := but_succ who xs j hj
  rw [if_neg (by rw [hb]; decide)] at e
  have hl := h.len
  refine ⟨by rw [List.length_set]; exact h.len, ?_, by rw [e, List.length_append, ← h.nowl]; rfl, fun k hk => ?_⟩
  · rw [e, ← h.now, List.take_add_one, List.take_set_of_le (Nat.le_refl _), List.getElem?_set_self (by omega)]
    rfl
  · rw [List.getD_eq_getElem?_getD, List.getElem?_set, if_neg (by omega), ← List.getD_eq_getElem?_getD]
    exact h.rest k (by omega)
theorem cell_far (w : World) (v : Value) {q : Addr} {g i : Nat} (h : q.block ≠ g) : (w.setCell ⟨g, i, none⟩ v).cell? q = w.cell? q := by
  have e := Below.heap_setCell w ⟨g, i, none⟩ v q.block h
  unfold World.cell?
  rw [e]
theorem own_frozen {base g n cap : Nat} {ok : Nat → Prop} {ys : List Int} {W : World} (h : Kd.R (Kd.int .i64) 3 W base ok (.slice (some ⟨g, 0, none⟩) n cap) ys) (i : Nat) : W.frozen? ⟨g, i, none⟩ = false := by
  rcases (Kd.own_of_R h).2 with ⟨h2, _⟩ | ⟨g', cap', cur, hv, _, hg, _⟩
  · cases h2
  · injection hv with e1
    injection e1 with e1
    injection e1 with e1
    subst e1
    exact blk_frozen hg i
theorem measn2 {j n : Nat} (h : j < n) : n - ((j : Int) + 1).toNat < n - ((j : Int)).toNat := by omega
theorem zero3 (w : World) : (zeroValue 3).run Try.prog w = .ok (.int .i64 0) w := by kernel_rfl
/-- 'clear(s[i:])' of a row of one's own: its first i stay -/
theorem clear_row {base g n cap i : Nat} {ok : Nat → Prop} {ys : List Int} {W : World} (h : Kd.R (Kd.int .i64) 3 W base ok (.slice (some ⟨g, 0, none⟩) n cap) ys) (hi : i < n) :
    ∃ W', (Builtin.clear_ #[33] 0 #[.slice (some ⟨g, i, none⟩) (n - i) (cap - i)]).run Try.prog W = .ok (.tuple #[]) W' ∧ Kd.R (Kd.int .i64) 3 W' base ok (.slice (some ⟨g, 0, none⟩) i cap) (ys.take i) ∧ ∀ w0, Below base w0 W → Below base w0 W' := by
  have hn : n = ys.length := (Kd.R_reads' h).1
  have hok := h.1
  have ho := Kd.own_of_R h
  obtain ⟨ho1, ho2⟩ := ho
  rcases ho2 with ⟨h2, _⟩ | ⟨g', cap', cur, hv, hb, hg, hnc, hcm, hcs, htk⟩
  · cases h2
  injection hv with e1 e2 e3
  injection e1 with e1
  injection e1 with e1
  subst e1 e3
  rw [Nat.mul_one] at hcs htk
  have hrun := Lib.run_clear_slice (P := Try.prog) W 33 3 0 (.int .i64 0) Try.underlying33 zero3 rfl rfl g i (n - i) (cap - i) (by omega)
    (fun j hj => by rw [cell_of_row W g (i + j) cur 3 (0, 0) hg]; simp; omega) (fun j hj => blk_frozen hg _)
  have hset : W.setCells g i (List.replicate (n - i) (Value.int .i64 0)) = W.setRow g (cur.toList.take i ++ List.replicate (n - i) (Value.int .i64 0) ++ cur.toList.drop (i + (n - i))).toArray := by
    have h1 := run_storeCells_cells (P := Try.prog) g i (List.replicate (n - i) (Value.int .i64 0)) 0 W (by intro j hj; rw [List.length_replicate] at hj; rw [Nat.add_zero, cell_of_row W g (i + j) cur 3 (0, 0) hg]; simp; omega) (by intro j hj; exact blk_frozen hg _) (by intro v hv; rw [List.eq_of_mem_replicate hv]; rfl)
    have h2 := run_storeCells_at Try.prog g i 3 (List.replicate (n - i) (Value.int .i64 0)) 0 cur W hg (by rw [List.length_replicate]; omega) (by intro v hv; rw [List.eq_of_mem_replicate hv]; rfl)
    simp only [Nat.add_zero, List.length_replicate] at h1 h2
    rw [h1] at h2
    injection h2
  refine ⟨_, hrun, ?_, fun w0 hb0 => ?_⟩
  · rw [hset]
    have hg2 := setRow_heap W g cur (cur.toList.take i ++ List.replicate (n - i) (Value.int .i64 0) ++ cur.toList.drop (i + (n - i))).toArray 3 _ hg
    refine Kd.R_of_own ⟨?_, .inr ⟨g, cap, _, ?_, hb, hg2, by (rw [List.length_take]; omega), hcm, ?_, ?_⟩⟩ hok
    · simp [encs]
    · rw [List.length_take, Nat.min_eq_left (by omega)]
    · simp; omega
    · rw [Nat.mul_one, List.length_take, Nat.min_eq_left (by omega), List.append_assoc, List.take_left' (by simp; omega)]
      have h3 : (cur.toList.take ys.length).take i = (encs (Value.int .i64) ys).take i := by rw [htk]
      rw [List.take_take, Nat.min_eq_left (by omega)] at h3
      rw [h3]
      simp [encs, List.map_take]
  · rw [hset]
    exact below_setRow hb0 hb _

set_option maxHeartbeats 8000000 in
set_option maxRecDepth 100000 in
theorem lit16_calls (who x : Int) (q : Addr) (w : World) (hq : w.cell? q = some (.int .i64 who)) :
    Calls Try.prog 16 #[.int .i64 x, .pointer (some q)] w fun e w' => e = .returned (.bool (x == who)) ∧ Below w.heap.size w w' := by
  have HB := Aside0.mk (Below.refl w.heap.size w)
  obtain ⟨b, hb⟩ : ∃ b, (x == who) = b := ⟨_, rfl⟩
  have b2 : decide (x = who) = b := by rw [← hb]; rfl
  rw [hb]
  go_enter Try.func16, Try.ntmps16
  go_wp2
  go_ret
  exact ⟨by first | rfl | (rw [hb]) | (rw [b2]), HB.out⟩
set_option maxHeartbeats 8000000 in
set_option maxRecDepth 100000 in
theorem first16_calls (who : Int) (q : Addr) (A : Option Addr) (c : Nat) (xs : List Int) (w : World) (hr : Kd.C (Kd.int .i64) w A xs.length xs) (hn : xs.length < 1000000) (hq : w.cell? q = some (.int .i64 who)) :
    Calls Try.prog 23 #[.slice A xs.length c, .func (.func 16) #[] #[.pointer (some q)]] w fun e w' => e = .returned (.int .i64 (idxW who xs)) ∧ Below w.heap.size w w' := by
  have HB := Aside0.mk (Below.refl w.heap.size w)
  have HR := Aside0.mk hr
  have HQ := Aside0.mk hq
  clear hr hq
  go_enter Try.func23, Try.ntmps23
  go_wp2
  go_loopw [8] (fun i w' => ∃ j : Nat, j ≤ xs.length ∧ i = .int .i64 (j : Int) ∧ (∀ q, q < j → (xs.getD q 0 == who) = false) ∧ Below w.heap.size w w') (fun i _ => xs.length - (intOf i).toNat)
  case atStart => exact ⟨0, Nat.zero_le _, rfl, fun q hq => absurd hq (Nat.not_lt_zero q), HB.out⟩
  case round =>
    clear HB
    obtain ⟨j, hj, rfl, hl, hB⟩ := hrel
    have HL := Aside0.mk hl
    have HB := Aside0.mk hB
    clear hl hB
    by_cases hlt : j < xs.length
    · have q0 : decide ((j : Int) < (xs.length : Int)) = true := decide_eq_true (by omega)
      have q0n : decide (j < xs.length) = true := decide_eq_true hlt
      have q2 : (0 : Int) ≤ j := by omega
      have q3 : (j : Int) < (xs.length : Int) := by omega
      obtain ⟨ad, hA, hcj⟩ := (Kd.reads_of_C (enc := Value.int .i64) (d := (0 : Int)) (h1 := fun _ => rfl) (Kd.C_below HR.out HB.out)).2.2 (by omega)
      have h0 := hcj j hlt
      subst hA
      obtain ⟨x, hx⟩ : ∃ x, xs.getD j 0 = x := ⟨_, rfl⟩
      have HX := Aside0.mk hx
      rw [hx] at h0
      clear hx hcj
      obtain ⟨bb, hb⟩ : ∃ bb, (x == who) = bb := ⟨_, rfl⟩
      have HBB := Aside0.mk hb
      clear hb
      go_wp2_with (first | (go_at_call 16; fail))
      refine (lit16_calls who x q _ (pw_cell_below HB.out HQ.out)).mono ?_
      rw [HBB.out]
      rintro e w1 ⟨rfl, hb⟩
      have HB1 := Aside0.mk (below_step HB.out hb)
      have HL1 := Aside0.mk (show (xs.getD j 0 == who) = bb by rw [HX.out]; exact HBB.out)
      have hwj := Aside0.mk (num1 (Nat.le_refl j) (Nat.lt_trans hlt hn))
      clear HB hb h0
      cases bb with
      | true =>
        have ei := Aside0.mk (idxW_at hlt HL1.out HL.out)
        go_wp2
        go_ret
        exact ⟨by rw [ei.out]; rfl, HB1.out⟩
      | false =>
        have hj1 := hwj.out
        go_wp2
        try rw [hj1]
        exact ⟨⟨j + 1, hlt, rfl, fun q hq => (by rcases Nat.lt_succ_iff_lt_or_eq.mp hq with h | rfl; exact HL.out q h; exact HL1.out), HB1.out⟩, measn hlt⟩
    · have q0 : decide ((j : Int) < (xs.length : Int)) = false := decide_eq_false (by omega)
      have q0n : decide (j < xs.length) = false := decide_eq_false hlt
      have e1 := Aside0.mk (idxW_none (who := who) (xs := xs) (fun q hq => HL.out q (by omega)))
      go_wp2
      go_ret
      exact ⟨by rw [e1.out]; rfl, HB.out⟩
set_option maxHeartbeats 2000000 in
set_option maxRecDepth 100000 in
theorem delete16_calls (who : Int) (q : Addr) (base : Nat) (ok : Nat → Prop) (v : Value) (xs : List Int) (w : World) (hr : Kd.R (Kd.int .i64) 3 w base ok v xs) (hn : xs.length < 1000000) (hq : w.cell? q = some (.int .i64 who)) (lq : q.block < w.heap.size) (hqv : v.ownBlock ≠ some q.block) (hbw : base ≤ w.heap.size) :
    Calls Try.prog 14 #[v, .func (.func 16) #[] #[.pointer (some q)]] w fun e w' => ∃ v', e = .returned v' ∧ Kd.R (Kd.int .i64) 3 w' base ok v' (but who xs) ∧ Below base w w' ∧ (v'.ownBlock = none ∨ v'.ownBlock = v.ownBlock) := by
  obtain ⟨A, c, rfl, hle, hC⟩ := Kd.R_reads hr
  have HR := Aside0.mk hr
  have HQ := Aside0.mk hq
  have HC := Aside0.mk hC
  clear hr hC hq
  go_enter Try.func14, Try.ntmps14
  go_wp2_with (first | (go_at_call 23; fail))
  refine (first16_calls who q A c xs w HC.out hn HQ.out).mono ?_
  rintro e w1 ⟨rfl, hb⟩
  have HR1 := Aside0.mk (Kd.R_below HR.out hb)
  have HQ1 := Aside0.mk (pw_cell_below hb HQ.out)
  have HB1 := Aside0.mk (hb.mono hbw)
  have LQ1 := Aside0.mk (Nat.lt_of_lt_of_le lq hb.size)
  clear hb HR HQ HC
  rcases idxW_cases who xs with ⟨hi, hl⟩ | ⟨i0, hi, hi0, hb0, hl⟩
  · have e1 := Aside0.mk (but_none hl)
    rw [hi]
    clear hl hi
    go_wp2
    go_ret
    exact ⟨_, rfl, by rw [e1.out]; exact HR1.out, HB1.out, .inr rfl⟩
  · rw [hi]
    clear hi
    have hA : ∃ g, A = some ⟨g, 0, none⟩ := by
      rcases (Kd.own_of_R HR1.out).2 with ⟨h2, h3⟩ | ⟨g', cap', cur, hv, _⟩
      · omega
      · injection hv with e1
        exact ⟨g', e1⟩
    obtain ⟨g, rfl⟩ := hA
    have HF := Aside0.mk ((Half.first hi0 hl).drop hi0 hb0)
    have HQV := Aside0.mk (show q.block ≠ g from fun e => hqv (by rw [e]; rfl))
    have w0 := num1 (Nat.le_refl i0) (Nat.lt_trans hi0 hn)
    clear hl hb0 hqv lq
    have d1 : decide ((i0 : Int) = -1) = false := decide_eq_false (by omega)
    have d2 : ¬ (i0 : Int) = -1 := by omega
    have d3 : ((i0 : Int) == -1) = false := beq_eq_false_iff_ne.mpr d2
    have HI := Aside0.mk hi0
    go_wp2
    go_loopw [5, 6] (fun v5 v6 w' => ∃ (i j : Nat) (ys : List Int), v5 = .int .i64 (i : Int) ∧ v6 = .int .i64 (j : Int) ∧ i < j ∧ j ≤ xs.length ∧ Aside0 (Half who xs ys i j) ∧ Aside0 (Kd.R (Kd.int .i64) 3 w' base ok (.slice (some ⟨g, 0, none⟩) xs.length c) ys) ∧ Aside0 (Below base w w') ∧ Aside0 (w'.cell? q = some (.int .i64 who)) ∧ Aside0 (q.block < w'.heap.size)) (fun _ v6 _ => xs.length - (intOf v6).toNat)
    case atStart => exact ⟨i0, i0 + 1, xs, rfl, (by first | rfl | exact congrArg _ w0 | (rw [w0]; rfl)), Nat.lt_succ_self _, HI.out, HF, HR1, HB1, HQ1, LQ1⟩
    case round =>
      clear HR1 HQ1 HB1 LQ1 HF w0 d1 d2 d3
      obtain ⟨i, j, ys, rfl, rfl, hij, hj, HF, HR, HB, HQ, LQ⟩ := hrel
      have hyl := HF.out.len
      by_cases hlt : j < xs.length
      · have q0 : decide ((j : Int) < (xs.length : Int)) = true := decide_eq_true (by omega)
        have q0n : decide (j < xs.length) = true := decide_eq_true hlt
        have q2 : (0 : Int) ≤ j := by omega
        have q3 : (j : Int) < (xs.length : Int) := by omega
        have i2 : (0 : Int) ≤ i := by omega
        have i3 : (i : Int) < (xs.length : Int) := by omega
        obtain ⟨ad, hA, hcc⟩ := (Kd.reads_of_C (enc := Value.int .i64) (d := (0 : Int)) (h1 := fun _ => rfl) (Kd.R_reads' HR.out).2.2).2.2 (by omega)
        obtain rfl := Option.some.inj hA
        have h0 := hcc j (by omega)
        have h1 := hcc i (by omega)
        rw [add_plain] at h0 h1
        rw [HF.out.rest j (Nat.le_refl j)] at h0
        have f1 : wr.frozen? ⟨g, i, none⟩ = false := own_frozen HR.out i
        obtain ⟨x, hx⟩ : ∃ x, xs.getD j 0 = x := ⟨_, rfl⟩
        have HX := Aside0.mk hx
        rw [hx] at h0
        obtain ⟨y, hy⟩ : ∃ y, ys.getD i 0 = y := ⟨_, rfl⟩
        rw [hy] at h1
        clear hx hcc hy
        obtain ⟨bb, hb⟩ : ∃ bb, (x == who) = bb := ⟨_, rfl⟩
        have HBB := Aside0.mk hb
        have hwj := Aside0.mk (num1 (Nat.le_refl j) (Nat.lt_trans hlt hn))
        have hwi := Aside0.mk (num1 (Nat.le_refl i) (Nat.lt_trans (Nat.lt_of_lt_of_le hij hj) hn))
        clear hb
        go_wp2_with (first | (go_at_call 16; fail))
        refine (lit16_calls who x q _ HQ.out).mono ?_
        rw [HBB.out]
        rintro e w2 ⟨rfl, hb⟩
        have HR2 := Aside0.mk (Kd.R_below HR.out hb)
        have HB2 := Aside0.mk (HB.out.trans (hb.mono (Nat.le_trans hbw HB.out.size)))
        have HQ2 := Aside0.mk (pw_cell_below hb HQ.out)
        have LQ2 := Aside0.mk (Nat.lt_of_lt_of_le LQ.out hb.size)
        have HL1 := Aside0.mk (show (xs.getD j 0 == who) = bb by rw [HX.out]; exact HBB.out)
        have g1 : w2.cell? ⟨g, i, none⟩ = some (.int .i64 y) := pw_cell_below hb h1
        have k1 : w2.frozen? ⟨g, i, none⟩ = false := own_frozen HR2.out i
        clear hb h0 h1 f1
        have hj1 := hwj.out
        cases bb with
        | true =>
          have HF2 := Aside0.mk (HF.out.drop hlt HL1.out)
          clear HR HB HQ LQ HF
          go_wp2
          go_roundw
          case measure => first | exact measn2 hlt | (rw [hj1]; exact measn2 hlt)
          case rel => exact ⟨i, j + 1, ys, rfl, (by first | rfl | (rw [hj1]; rfl)), Nat.lt_succ_of_lt hij, hlt, HF2, HR2, HB2, HQ2, LQ2⟩
        | false =>
          have HF2 := Aside0.mk (HF.out.keep hij hlt HL1.out)
          have hyi := (Kd.R_reads' HR2.out).1
          have R3 := HR2.out
          rw [hyi] at R3
          have hput := Kd.R_put R3 (i : Int) x
          rw [Int.toNat_natCast] at hput
          have R4 := hput.1
          rw [← hyi] at R4
          have HR4 := Aside0.mk (show Kd.R (Kd.int .i64) 3 (w2.setCell ⟨g, i, none⟩ (.int .i64 x)) base ok (.slice (some ⟨g, 0, none⟩) xs.length c) (ys.set i (xs.getD j 0)) by rw [HX.out]; exact R4)
          have HB4 := Aside0.mk (HB2.out.setCell (p := ⟨g, i, none⟩) (Kd.R_base HR2.out g (by simp [Value.ownBlock])) (.int .i64 x))
          have HQ4 := Aside0.mk ((cell_far w2 (.int .i64 x) (i := i) HQV.out).trans HQ2.out)
          have LQ4 := Aside0.mk (show q.block < (w2.setCell ⟨g, i, none⟩ (.int .i64 x)).heap.size by simpa [World.setCell] using LQ2.out)
          have hi1 := hwi.out
          clear HR HB HQ LQ HF R3 R4 hput hyi HR2 HB2 HQ2 LQ2
          go_wp2
          go_roundw
          case measure => first | exact measn2 hlt | (rw [hj1]; exact measn2 hlt)
          case rel => exact ⟨i + 1, j + 1, _, (by first | rfl | (rw [hi1]; rfl)), (by first | rfl | (rw [hj1]; rfl)), Nat.succ_lt_succ hij, hlt, HF2, HR4, HB4, HQ4, LQ4⟩
      · have q0 : decide ((j : Int) < (xs.length : Int)) = false := decide_eq_false (by omega)
        have q0n : decide (j < xs.length) = false := decide_eq_false hlt
        have hin : i < xs.length := by omega
        have hcn := hle
        have i0' : (0 : Int) ≤ i := by omega
        have i1 : (i : Int) ≤ (xs.length : Int) := by omega
        have i2 : ¬ c = i := by omega
        have i3 : (i : Int) ≤ (c : Int) := by omega
        have i4 : i ≤ c := by omega
        have i5 : i ≤ xs.length := by omega
        obtain ⟨w3, hclr, hr3, hb3⟩ := clear_row HR.out hin
        have HR3 := Aside0.mk hr3
        have HB3 := Aside0.mk (hb3 w HB.out)
        have HE := Aside0.mk (show ys.take i = but who xs by rw [HF.out.now, List.take_of_length_le (by omega)])
        clear hr3 hb3 HR HB
        go_wp2
        go_ret
        exact ⟨_, rfl, by rw [← HE.out]; exact HR3.out, HB3.out, .inr rfl⟩

set_option maxHeartbeats 8000000 in
set_option maxRecDepth 100000 in
theorem lit24_calls (who x : Int) (q : Addr) (w : World) (hq : w.cell? q = some (.int .i64 who)) :
    Calls Try.prog 24 #[.int .i64 x, .pointer (some q)] w fun e w' => e = .returned (.bool (x == who)) ∧ Below w.heap.size w w' := by
  have HB := Aside0.mk (Below.refl w.heap.size w)
  obtain ⟨b, hb⟩ : ∃ b, (x == who) = b := ⟨_, rfl⟩
  have b2 : decide (x = who) = b := by rw [← hb]; rfl
  rw [hb]
  go_enter Try.func24, Try.ntmps24
  go_wp2
  go_ret
  exact ⟨by first | rfl | (rw [hb]) | (rw [b2]), HB.out⟩
set_option maxHeartbeats 8000000 in
set_option maxRecDepth 100000 in
theorem first24_calls (who : Int) (q : Addr) (A : Option Addr) (c : Nat) (xs : List Int) (w : World) (hr : Kd.C (Kd.int .i64) w A xs.length xs) (hn : xs.length < 1000000) (hq : w.cell? q = some (.int .i64 who)) :
    Calls Try.prog 23 #[.slice A xs.length c, .func (.func 24) #[] #[.pointer (some q)]] w fun e w' => e = .returned (.int .i64 (idxW who xs)) ∧ Below w.heap.size w w' := by
  have HB := Aside0.mk (Below.refl w.heap.size w)
  have HR := Aside0.mk hr
  have HQ := Aside0.mk hq
  clear hr hq
  go_enter Try.func23, Try.ntmps23
  go_wp2
  go_loopw [8] (fun i w' => ∃ j : Nat, j ≤ xs.length ∧ i = .int .i64 (j : Int) ∧ (∀ q, q < j → (xs.getD q 0 == who) = false) ∧ Below w.heap.size w w') (fun i _ => xs.length - (intOf i).toNat)
  case atStart => exact ⟨0, Nat.zero_le _, rfl, fun q hq => absurd hq (Nat.not_lt_zero q), HB.out⟩
  case round =>
    clear HB
    obtain ⟨j, hj, rfl, hl, hB⟩ := hrel
    have HL := Aside0.mk hl
    have HB := Aside0.mk hB
    clear hl hB
    by_cases hlt : j < xs.length
    · have q0 : decide ((j : Int) < (xs.length : Int)) = true := decide_eq_true (by omega)
      have q0n : decide (j < xs.length) = true := decide_eq_true hlt
      have q2 : (0 : Int) ≤ j := by omega
      have q3 : (j : Int) < (xs.length : Int) := by omega
      obtain ⟨ad, hA, hcj⟩ := (Kd.reads_of_C (enc := Value.int .i64) (d := (0 : Int)) (h1 := fun _ => rfl) (Kd.C_below HR.out HB.out)).2.2 (by omega)
      have h0 := hcj j hlt
      subst hA
      obtain ⟨x, hx⟩ : ∃ x, xs.getD j 0 = x := ⟨_, rfl⟩
      have HX := Aside0.mk hx
      rw [hx] at h0
      clear hx hcj
      obtain ⟨bb, hb⟩ : ∃ bb, (x == who) = bb := ⟨_, rfl⟩
      have HBB := Aside0.mk hb
      clear hb
      go_wp2_with (first | (go_at_call 24; fail))
      refine (lit24_calls who x q _ (pw_cell_below HB.out HQ.out)).mono ?_
      rw [HBB.out]
      rintro e w1 ⟨rfl, hb⟩
      have HB1 := Aside0.mk (below_step HB.out hb)
      have HL1 := Aside0.mk (show (xs.getD j 0 == who) = bb by rw [HX.out]; exact HBB.out)
      have hwj := Aside0.mk (num1 (Nat.le_refl j) (Nat.lt_trans hlt hn))
      clear HB hb h0
      cases bb with
      | true =>
        have ei := Aside0.mk (idxW_at hlt HL1.out HL.out)
        go_wp2
        go_ret
        exact ⟨by rw [ei.out]; rfl, HB1.out⟩
      | false =>
        have hj1 := hwj.out
        go_wp2
        try rw [hj1]
        exact ⟨⟨j + 1, hlt, rfl, fun q hq => (by rcases Nat.lt_succ_iff_lt_or_eq.mp hq with h | rfl; exact HL.out q h; exact HL1.out), HB1.out⟩, measn hlt⟩
    · have q0 : decide ((j : Int) < (xs.length : Int)) = false := decide_eq_false (by omega)
      have q0n : decide (j < xs.length) = false := decide_eq_false hlt
      have e1 := Aside0.mk (idxW_none (who := who) (xs := xs) (fun q hq => HL.out q (by omega)))
      go_wp2
      go_ret
      exact ⟨by rw [e1.out]; rfl, HB.out⟩
set_option maxHeartbeats 2000000 in
set_option maxRecDepth 100000 in
theorem delete24_calls (who : Int) (q : Addr) (base : Nat) (ok : Nat → Prop) (v : Value) (xs : List Int) (w : World) (hr : Kd.R (Kd.int .i64) 3 w base ok v xs) (hn : xs.length < 1000000) (hq : w.cell? q = some (.int .i64 who)) (lq : q.block < w.heap.size) (hqv : v.ownBlock ≠ some q.block) (hbw : base ≤ w.heap.size) :
    Calls Try.prog 14 #[v, .func (.func 24) #[] #[.pointer (some q)]] w fun e w' => ∃ v', e = .returned v' ∧ Kd.R (Kd.int .i64) 3 w' base ok v' (but who xs) ∧ Below base w w' ∧ (v'.ownBlock = none ∨ v'.ownBlock = v.ownBlock) := by
  obtain ⟨A, c, rfl, hle, hC⟩ := Kd.R_reads hr
  have HR := Aside0.mk hr
  have HQ := Aside0.mk hq
  have HC := Aside0.mk hC
  clear hr hC hq
  go_enter Try.func14, Try.ntmps14
  go_wp2_with (first | (go_at_call 23; fail))
  refine (first24_calls who q A c xs w HC.out hn HQ.out).mono ?_
  rintro e w1 ⟨rfl, hb⟩
  have HR1 := Aside0.mk (Kd.R_below HR.out hb)
  have HQ1 := Aside0.mk (pw_cell_below hb HQ.out)
  have HB1 := Aside0.mk (hb.mono hbw)
  have LQ1 := Aside0.mk (Nat.lt_of_lt_of_le lq hb.size)
  clear hb HR HQ HC
  rcases idxW_cases who xs with ⟨hi, hl⟩ | ⟨i0, hi, hi0, hb0, hl⟩
  · have e1 := Aside0.mk (but_none hl)
    rw [hi]
    clear hl hi
    go_wp2
    go_ret
    exact ⟨_, rfl, by rw [e1.out]; exact HR1.out, HB1.out, .inr rfl⟩
  · rw [hi]
    clear hi
    have hA : ∃ g, A = some ⟨g, 0, none⟩ := by
      rcases (Kd.own_of_R HR1.out).2 with ⟨h2, h3⟩ | ⟨g', cap', cur, hv, _⟩
      · omega
      · injection hv with e1
        exact ⟨g', e1⟩
    obtain ⟨g, rfl⟩ := hA
    have HF := Aside0.mk ((Half.first hi0 hl).drop hi0 hb0)
    have HQV := Aside0.mk (show q.block ≠ g from fun e => hqv (by rw [e]; rfl))
    have w0 := num1 (Nat.le_refl i0) (Nat.lt_trans hi0 hn)
    clear hl hb0 hqv lq
    have d1 : decide ((i0 : Int) = -1) = false := decide_eq_false (by omega)
    have d2 : ¬ (i0 : Int) = -1 := by omega
    have d3 : ((i0 : Int) == -1) = false := beq_eq_false_iff_ne.mpr d2
    have HI := Aside0.mk hi0
    go_wp2
    go_loopw [5, 6] (fun v5 v6 w' => ∃ (i j : Nat) (ys : List Int), v5 = .int .i64 (i : Int) ∧ v6 = .int .i64 (j : Int) ∧ i < j ∧ j ≤ xs.length ∧ Aside0 (Half who xs ys i j) ∧ Aside0 (Kd.R (Kd.int .i64) 3 w' base ok (.slice (some ⟨g, 0, none⟩) xs.length c) ys) ∧ Aside0 (Below base w w') ∧ Aside0 (w'.cell? q = some (.int .i64 who)) ∧ Aside0 (q.block < w'.heap.size)) (fun _ v6 _ => xs.length - (intOf v6).toNat)
    case atStart => exact ⟨i0, i0 + 1, xs, rfl, (by first | rfl | exact congrArg _ w0 | (rw [w0]; rfl)), Nat.lt_succ_self _, HI.out, HF, HR1, HB1, HQ1, LQ1⟩
    case round =>
      clear HR1 HQ1 HB1 LQ1 HF w0 d1 d2 d3
      obtain ⟨i, j, ys, rfl, rfl, hij, hj, HF, HR, HB, HQ, LQ⟩ := hrel
      have hyl := HF.out.len
      by_cases hlt : j < xs.length
      · have q0 : decide ((j : Int) < (xs.length : Int)) = true := decide_eq_true (by omega)
        have q0n : decide (j < xs.length) = true := decide_eq_true hlt
        have q2 : (0 : Int) ≤ j := by omega
        have q3 : (j : Int) < (xs.length : Int) := by omega
        have i2 : (0 : Int) ≤ i := by omega
        have i3 : (i : Int) < (xs.length : Int) := by omega
        obtain ⟨ad, hA, hcc⟩ := (Kd.reads_of_C (enc := Value.int .i64) (d := (0 : Int)) (h1 := fun _ => rfl) (Kd.R_reads' HR.out).2.2).2.2 (by omega)
        obtain rfl := Option.some.inj hA
        have h0 := hcc j (by omega)
        have h1 := hcc i (by omega)
        rw [add_plain] at h0 h1
        rw [HF.out.rest j (Nat.le_refl j)] at h0
        have f1 : wr.frozen? ⟨g, i, none⟩ = false := own_frozen HR.out i
        obtain ⟨x, hx⟩ : ∃ x, xs.getD j 0 = x := ⟨_, rfl⟩
        have HX := Aside0.mk hx
        rw [hx] at h0
        obtain ⟨y, hy⟩ : ∃ y, ys.getD i 0 = y := ⟨_, rfl⟩
        rw [hy] at h1
        clear hx hcc hy
        obtain ⟨bb, hb⟩ : ∃ bb, (x == who) = bb := ⟨_, rfl⟩
        have HBB := Aside0.mk hb
        have hwj := Aside0.mk (num1 (Nat.le_refl j) (Nat.lt_trans hlt hn))
        have hwi := Aside0.mk (num1 (Nat.le_refl i) (Nat.lt_trans (Nat.lt_of_lt_of_le hij hj) hn))
        clear hb
        go_wp2_with (first | (go_at_call 24; fail))
        refine (lit24_calls who x q _ HQ.out).mono ?_
        rw [HBB.out]
        rintro e w2 ⟨rfl, hb⟩
        have HR2 := Aside0.mk (Kd.R_below HR.out hb)
        have HB2 := Aside0.mk (HB.out.trans (hb.mono (Nat.le_trans hbw HB.out.size)))
        have HQ2 := Aside0.mk (pw_cell_below hb HQ.out)
        have LQ2 := Aside0.mk (Nat.lt_of_lt_of_le LQ.out hb.size)
        have HL1 := Aside0.mk (show (xs.getD j 0 == who) = bb by rw [HX.out]; exact HBB.out)
        have g1 : w2.cell? ⟨g, i, none⟩ = some (.int .i64 y) := pw_cell_below hb h1
        have k1 : w2.frozen? ⟨g, i, none⟩ = false := own_frozen HR2.out i
        clear hb h0 h1 f1
        have hj1 := hwj.out
        cases bb with
        | true =>
          have HF2 := Aside0.mk (HF.out.drop hlt HL1.out)
          clear HR HB HQ LQ HF
          go_wp2
          go_roundw
          case measure => first | exact measn2 hlt | (rw [hj1]; exact measn2 hlt)
          case rel => exact ⟨i, j + 1, ys, rfl, (by first | rfl | (rw [hj1]; rfl)), Nat.lt_succ_of_lt hij, hlt, HF2, HR2, HB2, HQ2, LQ2⟩
        | false =>
          have HF2 := Aside0.mk (HF.out.keep hij hlt HL1.out)
          have hyi := (Kd.R_reads' HR2.out).1
          have R3 := HR2.out
          rw [hyi] at R3
          have hput := Kd.R_put R3 (i : Int) x
          rw [Int.toNat_natCast] at hput
          have R4 := hput.1
          rw [← hyi] at R4
          have HR4 := Aside0.mk (show Kd.R (Kd.int .i64) 3 (w2.setCell ⟨g, i, none⟩ (.int .i64 x)) base ok (.slice (some ⟨g, 0, none⟩) xs.length c) (ys.set i (xs.getD j 0)) by rw [HX.out]; exact R4)
          have HB4 := Aside0.mk (HB2.out.setCell (p := ⟨g, i, none⟩) (Kd.R_base HR2.out g (by simp [Value.ownBlock])) (.int .i64 x))
          have HQ4 := Aside0.mk ((cell_far w2 (.int .i64 x) (i := i) HQV.out).trans HQ2.out)
          have LQ4 := Aside0.mk (show q.block < (w2.setCell ⟨g, i, none⟩ (.int .i64 x)).heap.size by simpa [World.setCell] using LQ2.out)
          have hi1 := hwi.out
          clear HR HB HQ LQ HF R3 R4 hput hyi HR2 HB2 HQ2 LQ2
          go_wp2
          go_roundw
          case measure => first | exact measn2 hlt | (rw [hj1]; exact measn2 hlt)
          case rel => exact ⟨i + 1, j + 1, _, (by first | rfl | (rw [hi1]; rfl)), (by first | rfl | (rw [hj1]; rfl)), Nat.succ_lt_succ hij, hlt, HF2, HR4, HB4, HQ4, LQ4⟩
      · have q0 : decide ((j : Int) < (xs.length : Int)) = false := decide_eq_false (by omega)
        have q0n : decide (j < xs.length) = false := decide_eq_false hlt
        have hin : i < xs.length := by omega
        have hcn := hle
        have i0' : (0 : Int) ≤ i := by omega
        have i1 : (i : Int) ≤ (xs.length : Int) := by omega
        have i2 : ¬ c = i := by omega
        have i3 : (i : Int) ≤ (c : Int) := by omega
        have i4 : i ≤ c := by omega
        have i5 : i ≤ xs.length := by omega
        obtain ⟨w3, hclr, hr3, hb3⟩ := clear_row HR.out hin
        have HR3 := Aside0.mk hr3
        have HB3 := Aside0.mk (hb3 w HB.out)
        have HE := Aside0.mk (show ys.take i = but who xs by rw [HF.out.now, List.take_of_length_le (by omega)])
        clear hr3 hb3 HR HB
        go_wp2
        go_ret
        exact ⟨_, rfl, by rw [← HE.out]; exact HR3.out, HB3.out, .inr rfl⟩
end Go.Proofs.Ytonbonailghjjaa.Lk
