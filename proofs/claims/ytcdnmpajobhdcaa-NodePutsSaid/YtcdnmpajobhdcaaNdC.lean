/- node.May, walked. -/
import Derived.Test.YtcdnmpajobhdcaaNdB
import Derived.Test.YtcdnmpajobhdcaaPNodePutsx3
namespace Go.Proofs.Ytcdnmpajobhdcaa.Nd
open Go.RowKit Go.Proofs.Ytcdnmpajobhdcaa.PNodePuts Go.Proofs.YtcdnmpajobhdcaaW.PrintWords Go.Proofs.YtcdnmpajobhdcaaW.PrintLast Go.Proofs.YtcdnmpajobhdcaaW.PrintMore Go.Proofs.Ytcdnmpajobhdcaa.XB
attribute [local go_sem] max2_int min2_int max_two min_two max_three min_three max_four min_four
set_option linter.unusedVariables false
set_option linter.unusedSimpArgs false
def keysL (l0 : List S43) (l1 : List S41) : List ByteArray := l0.map (fun x => x.f0) ++ l1.map (fun x => x.f0)
theorem keysL_length (l0 : List S43) (l1 : List S41) : (keysL l0 l1).length = l0.length + l1.length := by simp [keysL]
theorem keys_l1 (l1 : List S41) (hl1 : l1.length ≤ 100) : ∀ (d i k : Nat) (acc : List ByteArray), i + d = l1.length → d + 1 ≤ k → acc.length + d ≤ 1000 → node_Keys.l1 k acc l1 (l1.length : Int) (i : Int) = some (acc ++ (l1.drop i).map (fun x => x.f0)) := by
  intro d
  induction d with
  | zero =>
    intro i k acc hi hk ha
    obtain ⟨k, rfl⟩ : ∃ q, k = q + 1 := ⟨k - 1, by omega⟩
    rw [node_Keys.l1, if_neg (by omega), List.drop_of_length_le (by omega), List.map_nil, List.append_nil]
  | succ d ih =>
    intro i k acc hi hk ha
    obtain ⟨k, rfl⟩ : ∃ q, k = q + 1 := ⟨k - 1, by omega⟩
    have hl : i < l1.length := by omega
    have hr : rd_T41 l1 (i : Int) = l1[i] := by unfold rd_T41; rw [Int.toNat_natCast, List.getD_eq_getElem?_getD, List.getElem?_eq_getElem hl]; rfl
    rw [node_Keys.l1, if_pos (by omega), if_pos (by omega), if_pos (by omega), if_pos (by omega), w64 (x := (i : Int) + 1) (by omega) (by omega), show (i : Int) + 1 = ((i + 1 : Nat) : Int) by omega,
      ih (i + 1) k _ (by omega) (by omega) (by rw [List.length_append, List.length_singleton]; omega), hr, List.drop_eq_getElem_cons hl, List.map_cons, List.append_assoc]
    rfl
theorem keys_l0 (l0 : List S43) (l1 : List S41) (hl0 : l0.length ≤ 100) (hl1 : l1.length ≤ 100) : ∀ (d i k : Nat) (acc : List ByteArray), i + d = l0.length → d + 110 ≤ k → acc.length + d ≤ 500 → node_Keys.l0 k acc l0 (l0.length : Int) (i : Int) l0 l1 = some (acc ++ ((l0.drop i).map (fun x => x.f0) ++ l1.map (fun x => x.f0))) := by
  intro d
  induction d with
  | zero =>
    intro i k acc hi hk ha
    obtain ⟨k, rfl⟩ : ∃ q, k = q + 1 := ⟨k - 1, by omega⟩
    rw [node_Keys.l0, if_neg (by omega), List.drop_of_length_le (by omega), List.map_nil, List.nil_append]
    exact keys_l1 l1 hl1 l1.length 0 k acc (by omega) (by omega) (by omega)
  | succ d ih =>
    intro i k acc hi hk ha
    obtain ⟨k, rfl⟩ : ∃ q, k = q + 1 := ⟨k - 1, by omega⟩
    have hl : i < l0.length := by omega
    have hr : rd_T43 l0 (i : Int) = l0[i] := by unfold rd_T43; rw [Int.toNat_natCast, List.getD_eq_getElem?_getD, List.getElem?_eq_getElem hl]; rfl
    rw [node_Keys.l0, if_pos (by omega), if_pos (by omega), if_pos (by omega), if_pos (by omega), w64 (x := (i : Int) + 1) (by omega) (by omega), show (i : Int) + 1 = ((i + 1 : Nat) : Int) by omega,
      ih (i + 1) k _ (by omega) (by omega) (by rw [List.length_append, List.length_singleton]; omega), hr, List.drop_eq_getElem_cons hl, List.map_cons, List.append_assoc]
    rfl
theorem keys_k (l0 : List S43) (l1 : List S41) (h0 : l0.length ≤ 100) (h1 : l1.length ≤ 100) (k : Nat) (hk : 250 ≤ k) : node_Keys.f k l0 l1 = some (keysL l0 l1) := by
  unfold node_Keys.f
  exact keys_l0 l0 l1 h0 h1 l0.length 0 k [] (by omega) (by omega) (by simp; omega)
theorem enRow_of {w : World} {A : Option Addr} {l : List S43} (h : Kd.C k43 w A l.length l) : enRow w A l.length (fun i => (rd_T43 l (i : Int)).f0) (fun i => (rd_T43 l (i : Int)).f1) :=
  ⟨h.2.1, fun i hi => by
    obtain ⟨ad, e, h0, h1⟩ := at_T43 h (i : Int) (by omega) (by omega)
    rw [Int.toNat_natCast] at h0 h1
    exact ⟨ad, e, h0, h1⟩⟩
theorem kdRow_of {w : World} {A : Option Addr} {l : List S41} (h : Kd.C k41 w A l.length l) : kdRow w A l.length (fun i => (rd_T41 l (i : Int)).f0) (fun i => (rd_T41 l (i : Int)).f1.f0) (fun i => (rd_T41 l (i : Int)).f1.f1) :=
  ⟨h.2.1, fun i hi => by
    obtain ⟨ad, e, h0, h1, h2⟩ := at_T41 h (i : Int) (by omega) (by omega)
    rw [Int.toNat_natCast] at h0 h1 h2
    exact ⟨ad, e, h0, h1, h2⟩⟩
def badE (l : List S43) : Bool := decide (0 ≤ enIdx l.length (fun i => (rd_T43 l (i : Int)).f0) (fun i => (rd_T43 l (i : Int)).f1))
def badK (l : List S41) : Bool := decide (0 ≤ kdIdx l.length (fun i => (rd_T41 l (i : Int)).f0) (fun i => (rd_T41 l (i : Int)).f1.f0) (fun i => (rd_T41 l (i : Int)).f1.f1))
def risesL (l : List ByteArray) : Bool := risesB l.length (fun i => l.getD i ByteArray.empty)
/-- whether a node may be -/
def mayB (l0 : List S43) (l1 : List S41) : Bool := !(decide (0 < l0.length) == decide (0 < l1.length)) && (risesL (keysL l0 l1) && (!badE l0 && !badK l1))
set_option maxHeartbeats 4000000 in
set_option maxRecDepth 100000 in
theorem may_calls (A0 : Option Addr) (c0 : Nat) (l0 : List S43) (A1 : Option Addr) (c1 : Nat) (l1 : List S41) (w : World) (hr0 : Kd.C k43 w A0 l0.length l0) (hc0 : l0.length ≤ c0) (hr1 : Kd.C k41 w A1 l1.length l1) (hc1 : l1.length ≤ c1) (m0 : l0.length ≤ 100) (m1 : l1.length ≤ 100) :
    Calls Try.prog 11 #[.agg #[.slice A0 l0.length c0, .slice A1 l1.length c1]] w fun e w' => e = .returned (.bool (mayB l0 l1)) ∧ Below w.heap.size w w' := by
  have hu25 := Try.underlying25
  have HB := Aside0.mk (Below.refl w.heap.size w)
  have HR0 := Aside0.mk hr0
  have HR1 := Aside0.mk hr1
  clear hr0 hr1
  obtain ⟨b1, hb1⟩ : ∃ b, risesL (keysL l0 l1) = b := ⟨_, rfl⟩
  obtain ⟨b2, hb2⟩ : ∃ b, badE l0 = b := ⟨_, rfl⟩
  obtain ⟨b3, hb3⟩ : ∃ b, badK l1 = b := ⟨_, rfl⟩
  have HM := Aside0.mk (show mayB l0 l1 = (!(decide (0 < l0.length) == decide (0 < l1.length)) && (b1 && (!b2 && !b3))) by rw [mayB, hb1, hb2, hb3])
  have H1 := Aside0.mk (show risesB (keysL l0 l1).length (fun i => (keysL l0 l1).getD i ByteArray.empty) = b1 from hb1)
  have H2 := Aside0.mk (show decide (0 ≤ enIdx l0.length (fun i => (rd_T43 l0 (i : Int)).f0) (fun i => (rd_T43 l0 (i : Int)).f1)) = b2 from hb2)
  have H3 := Aside0.mk (show decide (0 ≤ kdIdx l1.length (fun i => (rd_T41 l1 (i : Int)).f0) (fun i => (rd_T41 l1 (i : Int)).f1.f0) (fun i => (rd_T41 l1 (i : Int)).f1.f1)) = b3 from hb3)
  clear hb1 hb2 hb3
  go_enter Try.func11, Try.ntmps11
  go_upto_region 1 with ((with_reducible refine gate_dst (N := 1) rfl ?_); refine box_event ?hg (N := 1) ?hd (cs := #[.slice A0 l0.length c0, .slice A1 l1.length c1]) (t := 25) ?hr ?_; (case hd => rfl); (case hg => rfl); (case hr => first | (go_simp; done) | (go_simp; rfl)); intro gb hg w2 hbox hb; have n0_ := Aside0.mk (below_step HB.out hb); have n1_ := Aside0.mk hbox; clear HB; have HB := n0_; have BK := n1_; clear n0_ n1_; clear hb hbox hg; have hz0 : w2.cell? ⟨gb, 0, none⟩ = some (.slice A0 l0.length c0) := (blk_cell BK.out 0).trans rfl; have hz1 : w2.cell? ⟨gb, 1, none⟩ = some (.slice A1 l1.length c1) := (blk_cell BK.out 1).trans rfl)
  by_cases p0 : 0 < l0.length
  · have d0 : decide (0 < (l0.length : Int)) = true := decide_eq_true (by omega)
    have d0n : decide (0 < l0.length) = true := decide_eq_true p0
    by_cases p1 : 0 < l1.length
    · have d1 : decide (0 < (l1.length : Int)) = true := decide_eq_true (by omega)
      have d1n : decide (0 < l1.length) = true := decide_eq_true p1
      have hE : (!(decide (0 < l0.length) == decide (0 < l1.length))) = false := by rw [d0n, d1n]; rfl
      rw [hE] at HM
      go_wp2
      go_ret
      exact ⟨by rw [HM.out]; rfl, HB.out⟩
    · have d1 : decide (0 < (l1.length : Int)) = false := decide_eq_false (by omega)
      have d1n : decide (0 < l1.length) = false := decide_eq_false p1
      have hE : (!(decide (0 < l0.length) == decide (0 < l1.length))) = true := by rw [d0n, d1n]; rfl
      go_wp2_with (first | (go_at_call 29; fail))
      with_reducible refine (node_Keys.calls 300 A0 c0 l0 A1 c1 l1 (keysL l0 l1) _ (Kd.C_below HR0.out HB.out) hc0 (Kd.C_below HR1.out HB.out) hc1 (keys_k l0 l1 m0 m1 300 (by decide))).mono ?_
      rintro e w3 ⟨v, rfl, hv, hb⟩
      have n0_ := Aside0.mk (below_step HB.out hb)
      have n1_ := Aside0.mk (blk_below (g := gb) BK.out hb)
      clear HB BK hb hz0 hz1
      have HB := n0_
      have BK := n1_
      clear n0_ n1_
      have hz0 : w3.cell? ⟨gb, 0, none⟩ = some (.slice A0 l0.length c0) := (blk_cell BK.out 0).trans rfl
      have hz1 : w3.cell? ⟨gb, 1, none⟩ = some (.slice A1 l1.length c1) := (blk_cell BK.out 1).trans rfl
      obtain ⟨AK, cK, eK⟩ := Kd.R_slice hv
      subst eK
      have HC := Aside0.mk (Kd.R_reads' hv).2.2
      clear hv
      go_wp2_with (first | (go_at_call 28; fail))
      with_reducible refine (rises_calls AK (keysL l0 l1).length cK (keysL l0 l1) _ HC.out (by rw [keysL_length]; omega)).mono ?_
      rintro e w4 ⟨rfl, hb⟩
      have n0_ := Aside0.mk (below_step HB.out hb)
      have n1_ := Aside0.mk (blk_below (g := gb) BK.out hb)
      clear HB BK hb hz0 hz1
      have HB := n0_
      have BK := n1_
      clear n0_ n1_
      have hz0 : w4.cell? ⟨gb, 0, none⟩ = some (.slice A0 l0.length c0) := (blk_cell BK.out 0).trans rfl
      have hz1 : w4.cell? ⟨gb, 1, none⟩ = some (.slice A1 l1.length c1) := (blk_cell BK.out 1).trans rfl
      clear HC
      rw [H1.out]
      cases b1 with
      | false =>
        go_wp2
        go_ret
        exact ⟨by rw [HM.out, hE]; rfl, HB.out⟩
      | true =>
        go_wp2_with (first | (go_at_call 30; fail))
        with_reducible refine (en_contains A0 l0.length c0 (fun i => (rd_T43 l0 (i : Int)).f0) (fun i => (rd_T43 l0 (i : Int)).f1) _ (enRow_of (Kd.C_below HR0.out HB.out))).mono ?_
        rintro e w5 ⟨rfl, hb⟩
        have n0_ := Aside0.mk (below_step HB.out hb)
        have n1_ := Aside0.mk (blk_below (g := gb) BK.out hb)
        clear HB BK hb hz0 hz1
        have HB := n0_
        have BK := n1_
        clear n0_ n1_
        have hz0 : w5.cell? ⟨gb, 0, none⟩ = some (.slice A0 l0.length c0) := (blk_cell BK.out 0).trans rfl
        have hz1 : w5.cell? ⟨gb, 1, none⟩ = some (.slice A1 l1.length c1) := (blk_cell BK.out 1).trans rfl
        rw [H2.out]
        cases b2 with
        | true =>
          go_wp2
          go_ret
          exact ⟨by rw [HM.out, hE]; rfl, HB.out⟩
        | false =>
          go_wp2_with (first | (go_at_call 32; fail))
          with_reducible refine (kd_contains A1 l1.length c1 (fun i => (rd_T41 l1 (i : Int)).f0) (fun i => (rd_T41 l1 (i : Int)).f1.f0) (fun i => (rd_T41 l1 (i : Int)).f1.f1) _ (kdRow_of (Kd.C_below HR1.out HB.out))).mono ?_
          rintro e w6 ⟨rfl, hb⟩
          have n0_ := Aside0.mk (below_step HB.out hb)
          have n1_ := Aside0.mk (blk_below (g := gb) BK.out hb)
          clear HB BK hb hz0 hz1
          have HB := n0_
          have BK := n1_
          clear n0_ n1_
          have hz0 : w6.cell? ⟨gb, 0, none⟩ = some (.slice A0 l0.length c0) := (blk_cell BK.out 0).trans rfl
          have hz1 : w6.cell? ⟨gb, 1, none⟩ = some (.slice A1 l1.length c1) := (blk_cell BK.out 1).trans rfl
          rw [H3.out]
          cases b3 <;>
          · go_wp2
            go_ret
            exact ⟨by rw [HM.out, hE]; rfl, HB.out⟩
  · have d0 : decide (0 < (l0.length : Int)) = false := decide_eq_false (by omega)
    have d0n : decide (0 < l0.length) = false := decide_eq_false p0
    by_cases p1 : 0 < l1.length
    · have d1 : decide (0 < (l1.length : Int)) = true := decide_eq_true (by omega)
      have d1n : decide (0 < l1.length) = true := decide_eq_true p1
      have hE : (!(decide (0 < l0.length) == decide (0 < l1.length))) = true := by rw [d0n, d1n]; rfl
      go_wp2_with (first | (go_at_call 29; fail))
      with_reducible refine (node_Keys.calls 300 A0 c0 l0 A1 c1 l1 (keysL l0 l1) _ (Kd.C_below HR0.out HB.out) hc0 (Kd.C_below HR1.out HB.out) hc1 (keys_k l0 l1 m0 m1 300 (by decide))).mono ?_
      rintro e w3 ⟨v, rfl, hv, hb⟩
      have n0_ := Aside0.mk (below_step HB.out hb)
      have n1_ := Aside0.mk (blk_below (g := gb) BK.out hb)
      clear HB BK hb hz0 hz1
      have HB := n0_
      have BK := n1_
      clear n0_ n1_
      have hz0 : w3.cell? ⟨gb, 0, none⟩ = some (.slice A0 l0.length c0) := (blk_cell BK.out 0).trans rfl
      have hz1 : w3.cell? ⟨gb, 1, none⟩ = some (.slice A1 l1.length c1) := (blk_cell BK.out 1).trans rfl
      obtain ⟨AK, cK, eK⟩ := Kd.R_slice hv
      subst eK
      have HC := Aside0.mk (Kd.R_reads' hv).2.2
      clear hv
      go_wp2_with (first | (go_at_call 28; fail))
      with_reducible refine (rises_calls AK (keysL l0 l1).length cK (keysL l0 l1) _ HC.out (by rw [keysL_length]; omega)).mono ?_
      rintro e w4 ⟨rfl, hb⟩
      have n0_ := Aside0.mk (below_step HB.out hb)
      have n1_ := Aside0.mk (blk_below (g := gb) BK.out hb)
      clear HB BK hb hz0 hz1
      have HB := n0_
      have BK := n1_
      clear n0_ n1_
      have hz0 : w4.cell? ⟨gb, 0, none⟩ = some (.slice A0 l0.length c0) := (blk_cell BK.out 0).trans rfl
      have hz1 : w4.cell? ⟨gb, 1, none⟩ = some (.slice A1 l1.length c1) := (blk_cell BK.out 1).trans rfl
      clear HC
      rw [H1.out]
      cases b1 with
      | false =>
        go_wp2
        go_ret
        exact ⟨by rw [HM.out, hE]; rfl, HB.out⟩
      | true =>
        go_wp2_with (first | (go_at_call 30; fail))
        with_reducible refine (en_contains A0 l0.length c0 (fun i => (rd_T43 l0 (i : Int)).f0) (fun i => (rd_T43 l0 (i : Int)).f1) _ (enRow_of (Kd.C_below HR0.out HB.out))).mono ?_
        rintro e w5 ⟨rfl, hb⟩
        have n0_ := Aside0.mk (below_step HB.out hb)
        have n1_ := Aside0.mk (blk_below (g := gb) BK.out hb)
        clear HB BK hb hz0 hz1
        have HB := n0_
        have BK := n1_
        clear n0_ n1_
        have hz0 : w5.cell? ⟨gb, 0, none⟩ = some (.slice A0 l0.length c0) := (blk_cell BK.out 0).trans rfl
        have hz1 : w5.cell? ⟨gb, 1, none⟩ = some (.slice A1 l1.length c1) := (blk_cell BK.out 1).trans rfl
        rw [H2.out]
        cases b2 with
        | true =>
          go_wp2
          go_ret
          exact ⟨by rw [HM.out, hE]; rfl, HB.out⟩
        | false =>
          go_wp2_with (first | (go_at_call 32; fail))
          with_reducible refine (kd_contains A1 l1.length c1 (fun i => (rd_T41 l1 (i : Int)).f0) (fun i => (rd_T41 l1 (i : Int)).f1.f0) (fun i => (rd_T41 l1 (i : Int)).f1.f1) _ (kdRow_of (Kd.C_below HR1.out HB.out))).mono ?_
          rintro e w6 ⟨rfl, hb⟩
          have n0_ := Aside0.mk (below_step HB.out hb)
          have n1_ := Aside0.mk (blk_below (g := gb) BK.out hb)
          clear HB BK hb hz0 hz1
          have HB := n0_
          have BK := n1_
          clear n0_ n1_
          have hz0 : w6.cell? ⟨gb, 0, none⟩ = some (.slice A0 l0.length c0) := (blk_cell BK.out 0).trans rfl
          have hz1 : w6.cell? ⟨gb, 1, none⟩ = some (.slice A1 l1.length c1) := (blk_cell BK.out 1).trans rfl
          rw [H3.out]
          cases b3 <;>
          · go_wp2
            go_ret
            exact ⟨by rw [HM.out, hE]; rfl, HB.out⟩
    · have d1 : decide (0 < (l1.length : Int)) = false := decide_eq_false (by omega)
      have d1n : decide (0 < l1.length) = false := decide_eq_false p1
      have hE : (!(decide (0 < l0.length) == decide (0 < l1.length))) = false := by rw [d0n, d1n]; rfl
      rw [hE] at HM
      go_wp2
      go_ret
      exact ⟨by rw [HM.out]; rfl, HB.out⟩
end Go.Proofs.Ytcdnmpajobhdcaa.Nd
