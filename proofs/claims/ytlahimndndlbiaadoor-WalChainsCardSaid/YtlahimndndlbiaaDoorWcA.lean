/- The law WalChains: a chain's sum is that of the chain ahead, and the block; both are noted. -/
import Derived.Test.YtlahimndndlbiaaDoorBkB
import Derived.Test.YtlahimndndlbiaaDoorPWalChainsx4
import Derived.Test.YtlahimndndlbiaaDoorXI
namespace Go.Proofs.YtlahimndndlbiaaDoor.Bk
open Go.RowKit Go.Proofs.YtlahimndndlbiaaDoorW.PrintWords Go.Proofs.YtlahimndndlbiaaDoorW.PrintLast Go.Proofs.YtlahimndndlbiaaDoorW.PrintMore Go.Proofs.YtlahimndndlbiaaDoor.XB Go.Proofs.YtlahimndndlbiaaDoor.Sha
attribute [local go_sem] max2_int min2_int max_two min_two max_three min_three max_four min_four   -- for this text's walks alone
set_option linter.unusedVariables false
set_option linter.unusedSimpArgs false
set_option maxHeartbeats 8000000 in
set_option maxRecDepth 100000 in
theorem chain_calls (g m : Nat) (s : St) (c x : ByteArray) (hc : c.size ≤ 100) (hx : x.size ≤ 1000) (w : World) (hG : SL w) (h : IsBook w g m 32 s) :
    Calls Tryd.prog 5 #[.pointer (some ⟨g, 0, none⟩), .string c, .string x] w fun e w' => e = .returned (.string (dig (c ++ x))) ∧ IsBook w' g m 32 (s.next (dig (c ++ x)) (c ++ x)) ∧ Upd (fun j => j = g ∨ j = m) w w' := by
  have HG := Aside0.mk hG
  have HK := Aside0.mk h
  have hz : (c ++ x).size ≤ 140737488351232 := by rw [ByteArray.size_append]; omega
  have HZ := Aside0.mk hz
  have b1 : (c.size + x.size ≤ 9223372036854775807) = True := eq_true (by omega)
  have b2 : (9223372036854775807 < c.size + x.size) = False := eq_false (by omega)
  clear hG h hz hc hx
  go_enter Tryd.func5, Tryd.ntmps5
  go_wp2_with (first | (go_at_call 9; fail))
  refine (sum_calls g m s (c ++ x) HZ.out _ HG.out HK.out).mono ?_
  rintro e w1 ⟨rfl, hk, hu⟩
  go_wp2
  go_ret
  exact ⟨rfl, hk, hu⟩
theorem awake_60 : PWalChains.lodestonelaw15_awake.f 60 = some true := by decide +kernel
theorem meas10 (j : Nat) (h : j < 10) : 10 - ((j : Int) + 1).toNat < 10 - ((j : Int)).toNat := by omega
theorem next_keep (s : St) (d t : ByteArray) (h : s.L ≠ []) : (s.next d t).L ≠ [] := by
  obtain ⟨L, a, b, tw, fl⟩ := s
  simp only at h
  cases tw with
  | true => exact h
  | false =>
    cases hl : look L d with
    | some f =>
      simp only [St.next, hl]
      by_cases c : f.toList = t.toList
      · rw [if_pos c]; exact h
      · rw [if_neg c]; exact h
    | none =>
      simp only [St.next, hl]
      by_cases c : 8192 ≤ L.length
      · rw [if_pos c]; exact h
      · rw [if_neg c]
        intro e
        simp at e
theorem next_first (d t : ByteArray) : (St.next ⟨[], em, em, false, false⟩ d t).L ≠ [] := by
  intro h
  revert h
  show ((St.mk ([] ++ [(d, t)]) em em false false).L = []) → False
  simp
set_option maxHeartbeats 8000000 in
set_option maxRecDepth 100000 in
theorem chains_law (w : World) (hG : SL w) (a : ByteArray) (A : Option Addr) (n c : Nat) (xs : List ByteArray) (hr : ReadsOf Value.string ByteArray.empty w A n xs) (hs : ∀ s ∈ xs, s.size ≤ maxLen) (haw : PWalChains.lodestonelaw15_awake.f 60 = some true) :
    Calls Tryd.prog 3 #[.string a, .slice A n c] w fun e w' => e = .returned (.bool true) ∧ Below w.heap.size w w' := by
  obtain ⟨m1, hm1⟩ : ∃ m : Int, (if 40 < (a.size : Int) then 40 else (a.size : Int)) = m := ⟨_, rfl⟩
  have g1 : 0 ≤ m1 ∧ m1 ≤ (a.size : Int) ∧ m1 ≤ 40 := by rw [← hm1]; split <;> omega
  obtain ⟨y, hy⟩ : ∃ y, a.extract 0 m1.toNat = y := ⟨_, rfl⟩
  have hys : y.size ≤ 40 := by rw [← hy, ByteArray.size_extract]; omega
  have hsa : ∀ W : World, (Instr.slice 9 (.string a) none (some (.int .i64 m1)) none).run Tryd.prog W = .ok (.string y) W := fun W => by
    have h := run_slice_string_to_if (P := Tryd.prog) (w := W) 9 a .i64 m1 Tryd.underlying9
    rw [h, if_pos ⟨g1.1, g1.2.1⟩, hy]
  have HY := Aside0.mk hys
  have HR := Aside0.mk hr
  have HSZ := Aside0.mk hs
  have HG := Aside0.mk hG
  have HN := Aside0.mk hr.2.1
  have HAW := Aside0.mk haw
  clear hG hr hs hy hys g1 haw
  go_enter Tryd.func3, Tryd.ntmps3
  go_wp2
  refine start_ (n := 8) (S := fun w' => Below w.heap.size w w') (ds := []) #[false, false, false, false, false, false, false, false] (by kernel_rfl) rfl rfl (below_drew1 (Below.refl _ _)) (fun hHeld => ?_)
  refine pure_ (i := 1) (N := some 11) (v := ?_) (a' := ?_) #[false, true, false, false, false, false, false, false] rfl rfl (by kernel_rfl) (fun _ _ _ h => h) (Or.inl ⟨by rfl, ?_⟩) ?_ ?_
  rotate_left
  · intro w'
    go_simp
    with_reducible rfl
  rotate_left
  · simp only [Act.put, List.setIfInBounds_toArray, List.set_cons_zero, List.set_cons_succ, i64_w, i32_w]
    rfl
  refine pure_ (i := 2) (N := some 12) (v := ?_) (a' := ?_) #[false, true, true, false, false, false, false, false] rfl rfl (by kernel_rfl) (fun _ _ _ h => h) (Or.inl ⟨by rfl, ?_⟩) ?_ ?_
  rotate_left
  · intro w'
    go_simp
    with_reducible rfl
  rotate_left
  · simp only [Act.put, List.setIfInBounds_toArray, List.set_cons_zero, List.set_cons_succ, i64_w, i32_w]
    rfl
  refine pure_ (i := 3) (N := some 13) (v := ?_) (a' := ?_) #[false, true, true, true, false, false, false, false] rfl rfl (by kernel_rfl) (fun _ _ _ h => h) (Or.inl ⟨by rfl, ?_⟩) ?_ ?_
  rotate_left
  · intro w'
    go_simp
    with_reducible rfl
  rotate_left
  · simp only [Act.put, List.setIfInBounds_toArray, List.set_cons_zero, List.set_cons_succ, i64_w, i32_w]
    rfl
  refine pure_ (i := 4) (N := some 14) (v := ?_) (a' := ?_) #[false, true, true, true, true, false, false, false] rfl rfl (by kernel_rfl) (fun _ _ _ h => h) (Or.inl ⟨by rfl, ?_⟩) ?_ ?_
  rotate_left
  · intro w'
    go_simp
    with_reducible rfl
  rotate_left
  · simp only [Act.put, List.setIfInBounds_toArray, List.set_cons_zero, List.set_cons_succ, i64_w, i32_w]
    rfl
  refine pure_ (i := 5) (N := some 15) (v := ?_) (a' := ?_) #[false, true, true, true, true, true, false, false] rfl rfl (by kernel_rfl) (fun _ _ _ h => h) (Or.inl ⟨by rfl, ?_⟩) ?_ ?_
  rotate_left
  · intro w'
    go_simp
    with_reducible rfl
  rotate_left
  · simp only [Act.put, List.setIfInBounds_toArray, List.set_cons_zero, List.set_cons_succ, i64_w, i32_w]
    rfl
  refine one_ (i := 0) (N := some 10) #[true, true, true, true, true, true, false, false] rfl rfl (by kernel_rfl) (by decide) (fun K hK => ?_)
  refine goes_ Tryd.func4 (by kernel_rfl) rfl #[] (by rfl) rfl rfl (by (try simp only [List.map_toArray, List.map_cons, List.map_nil]); first | done | rfl) ?_
  with_reducible refine (new_calls _).mono ?_
  rintro e w9 ⟨g, m, rfl, hg, hm, hk, hb⟩
  refine ⟨_, rfl, ?_⟩
  refine hK.out _ _ (below_step hHeld hb) (fun hHeld => ?_)
  clear hK K
  refine norm_ (a' := ?_) ?_ ?_
  rotate_left
  · show Act.put _ (some 10) _ = _
    simp only [Act.put, List.setIfInBounds_toArray, List.set_cons_zero, List.set_cons_succ, i64_w, i32_w]
    rfl
  refine pure_ (i := 6) (N := some 5) (v := ?_) (a' := ?_) #[true, true, true, true, true, true, true, false] rfl rfl (by kernel_rfl) (fun _ _ _ h => h) (Or.inl ⟨by rfl, ?_⟩) ?_ ?_
  rotate_left
  · intro w'
    go_simp
    with_reducible rfl
  rotate_left
  · simp only [Act.put, List.setIfInBounds_toArray, List.set_cons_zero, List.set_cons_succ, i64_w, i32_w]
    rfl
  refine pure_ (i := 7) (N := some 6) (v := ?_) (a' := ?_) #[true, true, true, true, true, true, true, true] rfl rfl (by kernel_rfl) (fun _ _ _ h => h) (Or.inl ⟨by rfl, ?_⟩) ?_ ?_
  rotate_left
  · intro w'
    go_simp
    with_reducible rfl
  rotate_left
  · simp only [Act.put, List.setIfInBounds_toArray, List.set_cons_zero, List.set_cons_succ, i64_w, i32_w]
    rfl
  refine done_ (by kernel_rfl) ?_

  go_wp2
  have HS := Aside0.mk (show ∀ k, (k = g ∨ k = m) → w.heap.size ≤ k by rintro k (rfl | rfl); exact hg; exact hm)
  have HK := Aside0.mk hk
  have HB := Aside0.mk hHeld
  clear hHeld hk hg hm hb hsa hm1
  go_loopw [6, 7] (fun v i wr => ∃ (j : Nat) (cc : ByteArray) (s : St), j ≤ n ∧ j ≤ 10 ∧ i = .int .i64 (j : Int) ∧ v = .string cc ∧ cc.size ≤ 40 ∧ ((j = 0 ∧ s = ⟨[], em, em, false, false⟩) ∨ (0 < j ∧ s.L ≠ [])) ∧ IsBook wr g m 32 s ∧ Below w.heap.size w wr) (fun _ i _ => 10 - (intOf i).toNat)
  case atStart => exact ⟨0, y, _, Nat.zero_le _, by omega, rfl, rfl, HY.out, .inl ⟨rfl, rfl⟩, HK.out, HB.out⟩
  case round =>
    clear HK HB HY
    obtain ⟨j, cc, s, hjn, hj6, rfl, rfl, hcc, hst, hK, hB⟩ := hrel
    have HK := Aside0.mk hK
    have HB := Aside0.mk hB
    have HC := Aside0.mk hcc
    have HST := Aside0.mk hst
    clear hK hB hcc hst
    by_cases hlt : j < n ∧ j < 10
    · obtain ⟨ad, hA, hc⟩ := (ReadsOf.below HR.out HB.out).at_ (j : Int) (by omega) (by have := hlt.1; omega)
      obtain ⟨x, hx⟩ : ∃ x, rdOf ByteArray.empty xs (j : Int) = x := ⟨_, rfl⟩
      rw [hx, Int.toNat_natCast] at hc
      have hxs : x.size ≤ 9223372036854775807 := by
        rw [← hx]
        have hm : rdOf ByteArray.empty xs (j : Int) ∈ xs := by
          have hl : j < xs.length := by rw [HR.out.1]; exact hlt.1
          rw [rdOf, Int.toNat_natCast, List.getD_eq_getElem?_getD, List.getElem?_eq_getElem hl]
          exact List.getElem_mem hl
        exact HSZ.out _ hm
      obtain ⟨m2, hm2⟩ : ∃ m : Int, (if 200 < (x.size : Int) then 200 else (x.size : Int)) = m := ⟨_, rfl⟩
      have g2 : 0 ≤ m2 ∧ m2 ≤ (x.size : Int) ∧ m2 ≤ 200 := by rw [← hm2]; split <;> omega
      obtain ⟨z, hz⟩ : ∃ z, x.extract 0 m2.toNat = z := ⟨_, rfl⟩
      have hzs : z.size ≤ 200 := by rw [← hz, ByteArray.size_extract]; omega
      have hsx : ∀ W : World, (Instr.slice 9 (.string x) none (some (.int .i64 m2)) none).run Tryd.prog W = .ok (.string z) W := fun W => by
        have h := run_slice_string_to_if (P := Tryd.prog) (w := W) 9 x .i64 m2 Tryd.underlying9
        rw [h, if_pos ⟨g2.1, g2.2.1⟩, hz]
      have HZ := Aside0.mk hzs
      have q0 : decide ((j : Int) < (n : Int)) = true := decide_eq_true (by omega)
      have q0n : decide (j < n) = true := decide_eq_true (by omega)
      have q1 : decide ((j : Int) < 10) = true := decide_eq_true (by omega)
      have q2 : (0 : Int) ≤ j := by omega
      have q3 : (j : Int) < (n : Int) := by omega
      have hwj : wrap64 ((j : Int) + 1) = (j : Int) + 1 := w64 (by omega) (by omega)
      have b1 : (cc.size + z.size ≤ 9223372036854775807) = True := eq_true (by have := HC.out; omega)
      have b2 : (9223372036854775807 < cc.size + z.size) = False := eq_false (by have := HC.out; omega)
      have HLT := Aside0.mk hlt
      subst hA
      clear hz g2 hzs hx hxs hjn hj6 hlt
      go_wp2
      go_quiet (fail)
      all_goals have F2 := Aside0.mk (And.intro (HK.out.below (pw_below_drewN (Below.refl _ _) nq)) (pw_below_drewN HB.out nq))
      clear HK HB hc
      generalize wr.drewN nq = wq at F2 ⊢
      have HK := Aside0.mk F2.out.1
      have HB := Aside0.mk F2.out.2
      clear F2 hsx hm2
      go_wp2_with (first | (go_at_call 5; fail))
      refine (chain_calls g m s cc z (Nat.le_trans HC.out (by decide)) (Nat.le_trans HZ.out (by decide)) _ (SL.below HG.out HB.out) HK.out).mono ?_
      rintro e w2 ⟨rfl, hk, hu⟩
      have n1_ := Aside0.mk (HB.out.trans (hu.below HB.out.size HS.out))
      have n3_ := Aside0.mk hk
      clear HB HK hk hu
      have HB := n1_
      have HK := n3_
      clear n1_ n3_
      go_wp2_with (first | (go_at_call 6; fail))
      refine (ref_dig (cc ++ z) (by rw [ByteArray.size_append]; have := HC.out; have := HZ.out; omega) _).mono ?_
      rintro e w3 ⟨rfl, hb⟩
      have n1_ := Aside0.mk (below_step HB.out hb)
      have n3_ := Aside0.mk (HK.out.below hb)
      clear HB HK hb
      have HB := n1_
      have HK := n3_
      clear n1_ n3_
      go_wp2
      go_roundw
      case measure => first | exact meas10 j HLT.out.2 | (rw [hwj]; exact meas10 j HLT.out.2)
      case rel =>
        refine ⟨j + 1, _, _, HLT.out.1, HLT.out.2, by go_num, rfl, by rw [dig_size]; decide, .inr ⟨Nat.succ_pos j, ?_⟩, HK.out, HB.out⟩
        rcases HST.out with ⟨_, h2⟩ | ⟨_, h2⟩
        · rw [h2]; exact next_first _ _
        · exact next_keep _ _ _ h2
    · have hiff : (decide ((n : Int) = 0) == decide ((s.L.length : Int) = 0)) = true := by
        have e1 : (n = 0) ↔ (s.L.length = 0) := by
          rcases HST.out with ⟨h1, h2⟩ | ⟨h1, h2⟩
          · rw [h2]
            exact ⟨fun _ => rfl, fun _ => by omega⟩
          · have h3 : s.L.length ≠ 0 := fun e => h2 (List.length_eq_zero_iff.mp e)
            omega
        have e2 : decide ((n : Int) = 0) = decide ((s.L.length : Int) = 0) := decide_eq_decide.mpr (by omega)
        rw [e2]; exact beq_self_eq_true _
      have hn2 : (n : Int) = 0 ↔ (s.L.length : Int) = 0 := by
        have := beq_iff_eq.mp hiff
        exact decide_eq_decide.mp this
      by_cases c : j < n
      · have q0 : decide ((j : Int) < (n : Int)) = true := decide_eq_true (by omega)
        have q0n : decide (j < n) = true := decide_eq_true (by omega)
        have q1 : decide ((j : Int) < 10) = false := decide_eq_false (by omega)
        have HI := Aside0.mk (And.intro hiff hn2)
        clear hlt hjn hj6 c hiff hn2
        go_wp2_with (first | (go_at_call 7; fail))
        refine (PWalChains.lodestonelaw15_awake.calls 60 true _ HAW.out).mono ?_
        rintro e w2 ⟨rfl, hb⟩
        have n1_ := Aside0.mk (below_step HB.out hb)
        have n3_ := Aside0.mk (HK.out.below hb)
        clear HB HK hb
        have HB := n1_
        have HK := n3_
        clear n1_ n3_
        go_wp2_with (first | (go_at_call 8; fail))
        refine (len_calls g m _ _ HK.out).mono ?_
        rintro e w3 ⟨rfl, hb⟩
        have n1_ := Aside0.mk (below_step HB.out hb)
        clear HB HK hb
        have HB := n1_
        clear n1_
        have h1 := HI.out.1
        by_cases z0 : (n : Int) = 0
        · have z1 : (s.L.length : Int) = 0 := HI.out.2.mp z0
          have z2 : decide ((n : Int) = 0) = true := decide_eq_true z0
          have z3 : decide ((s.L.length : Int) = 0) = true := decide_eq_true z1
          have z4 : ((n : Int) == 0) = true := beq_iff_eq.mpr z0
          have z5 : ((s.L.length : Int) == 0) = true := beq_iff_eq.mpr z1
          go_wp2
          go_ret
          exact ⟨rfl, HB.out⟩
        · have z1 : ¬ (s.L.length : Int) = 0 := fun e => z0 (HI.out.2.mpr e)
          have z2 : decide ((n : Int) = 0) = false := decide_eq_false z0
          have z3 : decide ((s.L.length : Int) = 0) = false := decide_eq_false z1
          have z4 : ((n : Int) == 0) = false := beq_eq_false_iff_ne.mpr z0
          have z5 : ((s.L.length : Int) == 0) = false := beq_eq_false_iff_ne.mpr z1
          go_wp2
          go_ret
          exact ⟨rfl, HB.out⟩
      · have q0 : decide ((j : Int) < (n : Int)) = false := decide_eq_false (by omega)
        have q0n : decide (j < n) = false := decide_eq_false (by omega)
        have HI := Aside0.mk (And.intro hiff hn2)
        clear hlt hjn hj6 c hiff hn2
        go_wp2_with (first | (go_at_call 7; fail))
        refine (PWalChains.lodestonelaw15_awake.calls 60 true _ HAW.out).mono ?_
        rintro e w2 ⟨rfl, hb⟩
        have n1_ := Aside0.mk (below_step HB.out hb)
        have n3_ := Aside0.mk (HK.out.below hb)
        clear HB HK hb
        have HB := n1_
        have HK := n3_
        clear n1_ n3_
        go_wp2_with (first | (go_at_call 8; fail))
        refine (len_calls g m _ _ HK.out).mono ?_
        rintro e w3 ⟨rfl, hb⟩
        have n1_ := Aside0.mk (below_step HB.out hb)
        clear HB HK hb
        have HB := n1_
        clear n1_
        have h1 := HI.out.1
        by_cases z0 : (n : Int) = 0
        · have z1 : (s.L.length : Int) = 0 := HI.out.2.mp z0
          have z2 : decide ((n : Int) = 0) = true := decide_eq_true z0
          have z3 : decide ((s.L.length : Int) = 0) = true := decide_eq_true z1
          have z4 : ((n : Int) == 0) = true := beq_iff_eq.mpr z0
          have z5 : ((s.L.length : Int) == 0) = true := beq_iff_eq.mpr z1
          go_wp2
          go_ret
          exact ⟨rfl, HB.out⟩
        · have z1 : ¬ (s.L.length : Int) = 0 := fun e => z0 (HI.out.2.mpr e)
          have z2 : decide ((n : Int) = 0) = false := decide_eq_false z0
          have z3 : decide ((s.L.length : Int) = 0) = false := decide_eq_false z1
          have z4 : ((n : Int) == 0) = false := beq_eq_false_iff_ne.mpr z0
          have z5 : ((s.L.length : Int) == 0) = false := beq_eq_false_iff_ne.mpr z1
          go_wp2
          go_ret
          exact ⟨rfl, HB.out⟩
end Go.Proofs.YtlahimndndlbiaaDoor.Bk
