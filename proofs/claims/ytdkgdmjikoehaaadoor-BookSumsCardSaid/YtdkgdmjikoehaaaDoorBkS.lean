/- The law BookSums: a book tells the sums of texts, and notes each once; twins that it tells are unlike, and of one sum. -/
import Derived.Test.YtdkgdmjikoehaaaDoorBkC
import Derived.Test.YtdkgdmjikoehaaaDoorXI
namespace Go.Proofs.YtdkgdmjikoehaaaDoor.Bk
open Go.RowKit Go.Proofs.YtdkgdmjikoehaaaDoorW.PrintWords Go.Proofs.YtdkgdmjikoehaaaDoorW.PrintLast Go.Proofs.YtdkgdmjikoehaaaDoorW.PrintMore Go.Proofs.YtdkgdmjikoehaaaDoor.XB Go.Proofs.YtdkgdmjikoehaaaDoor.PBookReal Go.Proofs.YtdkgdmjikoehaaaDoor.Sha
attribute [local go_sem] max2_int min2_int max_two min_two max_three min_three max_four min_four   -- for this text's walks alone
set_option linter.unusedVariables false
set_option linter.unusedSimpArgs false
/-! ### plain laws -/
theorem stwo {s : St} {d t f : ByteArray} (h1 : s.tw = false) (hl : look s.L d = some f) (c : ¬ f.toList = t.toList) : s.next d t = { s with a := f, b := t, tw := true } := by
  obtain ⟨L, a, b, tw, fl⟩ := s
  simp only at h1 hl
  subst h1
  simp only [St.next, hl]
  exact if_neg c
theorem sold {s : St} {d t f : ByteArray} (h1 : s.tw = false) (hl : look s.L d = some f) (c : f.toList = t.toList) : s.next d t = s := by
  obtain ⟨L, a, b, tw, fl⟩ := s
  simp only at h1 hl
  subst h1
  simp only [St.next, hl]
  exact if_pos c
theorem snew {s : St} {d t : ByteArray} (h1 : s.tw = false) (hl : look s.L d = none) (c : ¬ 8192 ≤ s.L.length) : s.next d t = { s with L := s.L ++ [(d, t)] } := by
  obtain ⟨L, a, b, tw, fl⟩ := s
  simp only at h1 hl c
  subst h1
  simp only [St.next, hl]
  exact if_neg c
/-- a book, and the texts that it was given, each once -/
structure Inv (s : St) (L : List ByteArray) (n : Nat) : Prop where
  len : L.length ≤ n
  state : (s.tw = true ∧ s.a ≠ s.b ∧ dig s.a = dig s.b ∧ s.a.size ≤ 100 ∧ s.b.size ≤ 100) ∨ (s.tw = false ∧ s.a = em ∧ s.b = em ∧ s.fl = false ∧ s.L = L.map fun t => (dig t, t))
  size : ∀ t ∈ L, t.size ≤ 100
theorem Inv.twin {s : St} {L L' : List ByteArray} {n n' : Nat} (h : Inv s L n) (c : s.tw = true) (t : ByteArray) (hl : L'.length ≤ n') (hs : ∀ t ∈ L', t.size ≤ 100) : Inv (s.next (dig t) t) L' n' := by
  have e : s.next (dig t) t = s := by
    obtain ⟨L, a, b, tw, fl⟩ := s
    simp only at c
    subst c
    rfl
  rw [e]
  refine ⟨hl, ?_, hs⟩
  rcases h.state with h1 | h1
  · exact .inl h1
  · rw [c] at h1; exact absurd h1.1 (by decide)
/-- two of one sum -/
theorem Inv.two {s : St} {L L' : List ByteArray} {n n' : Nat} (h : Inv s L n) (c : s.tw = false) (t f : ByteArray) (ht : t.size ≤ 100) (hlk : look s.L (dig t) = some f) (hne : f ≠ t) (hl : L'.length ≤ n') (hs : ∀ t ∈ L', t.size ≤ 100) : Inv (s.next (dig t) t) L' n' := by
  rw [stwo c hlk (fun e => hne (toList_inj.mp e))]
  refine ⟨hl, .inl ?_, hs⟩
  rcases h.state with h1 | h1
  · rw [c] at h1; exact absurd h1.1 (by decide)
  · have hm := look_mem _ _ _ hlk
    rw [h1.2.2.2.2] at hm
    simp only [List.mem_map, Prod.mk.injEq] at hm
    obtain ⟨x, hx, hd, rfl⟩ := hm
    exact ⟨rfl, hne, hd, h.size _ hx, ht⟩
theorem Inv.old {s : St} {L : List ByteArray} {n : Nat} (h : Inv s L n) (hn : n < 8000) (t : ByteArray) (ht : t.size ≤ 100) (hm : t ∈ L) : Inv (s.next (dig t) t) L (n + 1) := by
  have hl : L.length ≤ n + 1 := by have := h.len; omega
  cases c : s.tw with
  | true => exact h.twin c t hl h.size
  | false =>
    cases hlk : look s.L (dig t) with
    | some f =>
      by_cases e : f = t
      · rw [sold c hlk (by rw [e])]
        exact ⟨hl, h.state, h.size⟩
      · exact h.two c t f ht hlk e hl h.size
    | none =>
      rcases h.state with h1 | h1
      · rw [c] at h1; exact absurd h1.1 (by decide)
      · have := look_none _ _ hlk t
        rw [h1.2.2.2.2] at this
        exact absurd (List.mem_map.2 ⟨t, hm, rfl⟩) this
theorem Inv.new {s : St} {L : List ByteArray} {n : Nat} (h : Inv s L n) (hn : n < 8000) (t : ByteArray) (ht : t.size ≤ 100) (hm : t ∉ L) : Inv (s.next (dig t) t) (L ++ [t]) (n + 1) := by
  have hl : (L ++ [t]).length ≤ n + 1 := by have := h.len; rw [List.length_append, List.length_singleton]; omega
  have hs : ∀ x ∈ L ++ [t], x.size ≤ 100 := by
    intro x hx
    rcases List.mem_append.1 hx with hx | hx
    · exact h.size x hx
    · rw [List.mem_singleton.1 hx]; exact ht
  cases c : s.tw with
  | true => exact h.twin c t hl hs
  | false =>
    have h1 : s.a = em ∧ s.b = em ∧ s.fl = false ∧ s.L = L.map fun t => (dig t, t) := by
      rcases h.state with h1 | h1
      · rw [c] at h1; exact absurd h1.1 (by decide)
      · exact h1.2
    cases hlk : look s.L (dig t) with
    | some f =>
      refine h.two c t f ht hlk (fun e => hm ?_) hl hs
      have hk := look_mem _ _ _ hlk
      rw [h1.2.2.2] at hk
      simp only [List.mem_map, Prod.mk.injEq] at hk
      obtain ⟨x, hx, _, rfl⟩ := hk
      rw [← e]; exact hx
    | none =>
      have hlen : s.L.length = L.length := by rw [h1.2.2.2]; simp
      rw [snew c hlk (by have := h.len; omega)]
      refine ⟨hl, .inr ⟨c, h1.1, h1.2.1, h1.2.2.1, ?_⟩, hs⟩
      show s.L ++ _ = _
      rw [h1.2.2.2, List.map_append]
      rfl
theorem Inv.nil : Inv S0 [] 0 := ⟨Nat.le_refl _, .inr ⟨rfl, rfl, rfl, rfl, rfl⟩, fun _ h => absurd h List.not_mem_nil⟩
theorem take_snoc {L : List ByteArray} {q : Nat} (h : q < L.length) : L.take (q + 1) = L.take q ++ [L.getD q ByteArray.empty] := by
  rw [List.take_succ_eq_append_getElem h, List.getD_eq_getElem?_getD, List.getElem?_eq_getElem h]
  rfl
theorem IsBook.move {w w' : World} {g m T : Nat} {s : St} (h : IsBook w g m T s) (hk : ∀ k, k < w.heap.size → (k = g ∨ k = m) → w'.heap[k]? = w.heap[k]?) : IsBook w' g m T s := by
  obtain ⟨es, cl, h1, h2⟩ := h.map
  exact ⟨(hk g (blk_lt h.cells) (.inl rfl)).trans h.cells, es, cl, (hk m (blk_lt h1) (.inr rfl)).trans h1, h2⟩
theorem IsBook.gm {w : World} {g m T : Nat} {s : St} (h : IsBook w g m T s) : ∀ k, w.heap.size ≤ k → k ≠ g ∧ k ≠ m := by
  obtain ⟨es, cl, h1, h2⟩ := h.map
  have h3 := blk_lt h1
  have h4 := blk_lt h.cells
  exact fun k hk => ⟨by omega, by omega⟩
theorem meas60 (j : Nat) (h : j < 60) : 60 - ((j : Int) + 1).toNat < 60 - ((j : Int)).toNat := by omega
theorem info9 : (Tryd.prog.info? 9).map (fun i => (i.zero, i.size, i.bytes)) = some (some (.string ⟨#[]⟩), 1, 16) := by kernel_rfl
set_option maxHeartbeats 8000000 in
set_option maxRecDepth 100000 in
theorem sums_law (w : World) (hG : SL w) (A : Option Addr) (n c : Nat) (xs : List ByteArray) (hr : ReadsOf Value.string ByteArray.empty w A n xs) (hs : ∀ s ∈ xs, s.size ≤ maxLen) :
    Calls Tryd.prog 3 #[.slice A n c] w fun e w' => e = .returned (.bool true) ∧ Below w.heap.size w w' := by
  have HR := Aside0.mk hr
  have HSZ := Aside0.mk hs
  have HG := Aside0.mk hG
  have HN := Aside0.mk hr.2.1
  clear hG hr hs
  go_enter Tryd.func3, Tryd.ntmps3
  go_wp2_with (first | (go_at_call 6; fail))
  refine (new_calls _).mono ?_
  rintro e w1 ⟨g, m, rfl, hg, hm, hk, hb⟩
  have HK := Aside0.mk hk
  have HB := Aside0.mk hb
  have HS := Aside0.mk (show ∀ k, (k = g ∨ k = m) → w.heap.size ≤ k by rintro k (rfl | rfl); exact hg; exact hm)
  have HGM := Aside0.mk (show w1.heap.size ≠ g ∧ w1.heap.size ≠ m from ⟨fun e => by have := blk_lt hk.cells; omega, fun e => by obtain ⟨es, cl, h, _⟩ := hk.map; have := blk_lt h; omega⟩)
  clear hk hb hg hm
  go_wp2_with ((with_reducible refine gate_dst (N := 13) rfl ?_); refine Kd.R_lit Kd.string _ 9 ?hg (N := 13) ?hd (xs := ([] : List ByteArray)) (inner := []) (ok := fun k => k ≠ g ∧ k ≠ m) (okp := fun _ => False) ?hr ?hp (fun _ hk => hk.elim) HGM.out (Below.refl _ _) (Nat.le_refl _) (by simp) ?_; (case hd => rfl); (case hg => rfl); (case hr => first | (go_simp; done) | (go_simp; rfl)); (case hp => exact Reps.none _ _); intro v2 w2 ho hb hg_ hnew_; clear hg_ hnew_; have HO := Aside0.mk (Kd.R_lower ho HB.out.size); have n1_ := Aside0.mk (below_step HB.out hb); have n2_ := Aside0.mk (HK.out.below hb); clear HB HK; have HB := n1_; have HK := n2_; clear n1_ n2_; clear hb ho)
  clear HGM
  go_wp2
  go_loopw [4, 5] (fun v i wr => ∃ (j : Nat) (L : List ByteArray) (s : St), j ≤ n ∧ j ≤ 60 ∧ i = .int .i64 (j : Int) ∧ Inv s L j ∧ IsBook wr g m 38 s ∧ Kd.string.R 9 wr w.heap.size (fun k => k ≠ g ∧ k ≠ m) v L ∧ Below w.heap.size w wr) (fun _ i _ => 60 - (intOf i).toNat)
  case atStart => exact ⟨0, [], S0, Nat.zero_le _, by omega, rfl, Inv.nil, HK.out, HO.out, HB.out⟩
  case round =>
    clear HK HB HO
    obtain ⟨j, L, s, hjn, hj6, rfl, hI, hK, hO, hB⟩ := hrel
    obtain ⟨A', c', rfl, hc', hC⟩ := Kd.R_reads hO
    have HI := Aside0.mk hI
    have HK := Aside0.mk hK
    have HO := Aside0.mk hO
    have HB := Aside0.mk hB
    have HL := Aside0.mk (Nat.le_trans hI.len hj6)
    clear hI hK hO hB hC hc'
    by_cases hlt : j < n ∧ j < 60
    · obtain ⟨ad, hA, hc⟩ := (ReadsOf.below HR.out HB.out).at_ (j : Int) (by omega) (by have := hlt.1; omega)
      obtain ⟨x, hx⟩ : ∃ x, rdOf ByteArray.empty xs (j : Int) = x := ⟨_, rfl⟩
      rw [hx, Int.toNat_natCast] at hc
      have hxs : x.size ≤ 9223372036854775807 := by
        rw [← hx]
        have hm : rdOf ByteArray.empty xs (j : Int) ∈ xs := by
          have hl : j < xs.length := by rw [HR.out.1]; exact hlt.1
          rw [rdOf, Int.toNat_natCast, List.getD_eq_getElem?_getD, List.getElem?_eq_getElem hl]
          exact List.getElem_mem hl
        exact HSZ.out _ hm
      obtain ⟨m1, hm1⟩ : ∃ m : Int, (if 100 < (x.size : Int) then 100 else (x.size : Int)) = m := ⟨_, rfl⟩
      have g1 : 0 ≤ m1 ∧ m1 ≤ (x.size : Int) ∧ m1 ≤ 100 := by rw [← hm1]; split <;> omega
      obtain ⟨y, hy⟩ : ∃ y, x.extract 0 m1.toNat = y := ⟨_, rfl⟩
      have hys : y.size ≤ 100 := by rw [← hy, ByteArray.size_extract]; omega
      have hsa : ∀ W : World, (Instr.slice 9 (.string x) none (some (.int .i64 m1)) none).run Tryd.prog W = .ok (.string y) W := fun W => by
        have h := run_slice_string_to_if (P := Tryd.prog) (w := W) 9 x .i64 m1 Tryd.underlying9
        rw [h, if_pos ⟨g1.1, g1.2.1⟩, hy]
      have HY := Aside0.mk hys
      have q0 : decide ((j : Int) < (n : Int)) = true := decide_eq_true (by omega)
      have q0n : decide (j < n) = true := decide_eq_true (by omega)
      have q1 : decide ((j : Int) < 60) = true := decide_eq_true (by omega)
      have q2 : (0 : Int) ≤ j := by omega
      have q3 : (j : Int) < (n : Int) := by omega
      have hwj : wrap64 ((j : Int) + 1) = (j : Int) + 1 := w64 (by omega) (by omega)
      have HLT := Aside0.mk hlt
      subst hA
      clear hy g1 hys hx hxs hjn hj6 hlt
      go_wp2
      go_quiet (fail)
      all_goals have F2 := Aside0.mk (And.intro (HK.out.below (pw_below_drewN (Below.refl _ _) nq)) (And.intro (Kd.R_drewN HO.out nq) (pw_below_drewN HB.out nq)))
      clear HK HO HB hc
      generalize wr.drewN nq = wq at F2 ⊢
      have HK := Aside0.mk F2.out.1
      have HO := Aside0.mk F2.out.2.1
      have HB := Aside0.mk F2.out.2.2
      clear F2 hsa hm1
      go_wp2_with (first | (go_at_call 7; fail))
      refine (sum_calls g m s y (Nat.le_trans HY.out (by decide)) _ (SL.below HG.out HB.out) HK.out).mono ?_
      rintro e w2 ⟨rfl, hk, hu⟩
      have n1_ := Aside0.mk (HB.out.trans (hu.below HB.out.size HS.out))
      have n2_ := Aside0.mk (Kd.R_step HO.out (fun k hk hlt => hu.block k hlt (fun e => by rcases e with e | e; exact hk.1 e; exact hk.2 e)))
      have n3_ := Aside0.mk hk
      clear HB HK HO hk hu
      have HB := n1_
      have HO := n2_
      have HK := n3_
      clear n1_ n2_ n3_
      go_wp2_with (first | (go_at_call 8; fail))
      refine (ref_dig y (Nat.le_trans HY.out (by decide)) _).mono ?_
      rintro e w3 ⟨rfl, hb⟩
      have n1_ := Aside0.mk (below_step HB.out hb)
      have n2_ := Aside0.mk (Kd.R_below HO.out hb)
      have n3_ := Aside0.mk (HK.out.below hb)
      clear HB HK HO hb
      have HB := n1_
      have HO := n2_
      have HK := n3_
      clear n1_ n2_ n3_
      have hLm : L.length ≤ 9223372036854775807 := Nat.le_trans HL.out (by decide)
      go_wp2
      go_loopw [7, 8] (fun f i w' => ∃ q : Nat, q ≤ L.length ∧ i = .int .i64 (q : Int) ∧ (∃ b : Bool, f = .bool b ∧ (b = true ↔ y ∉ L.take q)) ∧ w' = w3) (fun _ i _ => L.length - (intOf i).toNat)
      case atStart => exact ⟨0, Nat.zero_le _, rfl, ⟨true, rfl, by simp⟩, rfl⟩
      case round =>
        obtain ⟨q, hq, rfl, ⟨b, rfl, hb⟩, rfl⟩ := hrel
        have HBB := Aside0.mk hb
        clear hb
        by_cases hql : q < L.length
        · obtain ⟨ad2, hA2, hc2⟩ := Kd.at_string (Kd.R_reads' HO.out).2.2 (q : Int) (by omega) (by omega)
          obtain ⟨z, hz⟩ : ∃ z, rdOf ByteArray.empty L (q : Int) = z := ⟨_, rfl⟩
          rw [hz, Int.toNat_natCast] at hc2
          have HZ := Aside0.mk (show L.take (q + 1) = L.take q ++ [z] by rw [take_snoc hql, ← hz, rdOf, Int.toNat_natCast])
          have q4 : decide ((q : Int) < (L.length : Int)) = true := decide_eq_true (by omega)
          have q4n : decide (q < L.length) = true := decide_eq_true (by omega)
          have q5 : (0 : Int) ≤ q := by omega
          have q6 : (q : Int) < (L.length : Int) := by omega
          subst hA2
          clear hz
          cases b with
          | true =>
            by_cases c : z.toList = y.toList
            · have c1 : (z.toList == y.toList) = true := beq_iff_eq.mpr c
              have c2 : (z.toList != y.toList) = false := bne_eq_false_iff_eq.mpr c
              go_wp2
              go_roundw
              case measure => simp [intOf]; omega
              case rel =>
                refine ⟨q + 1, by omega, by go_num, ⟨_, rfl, ?_⟩, trivial⟩
                rw [HZ.out]
                simp [toList_inj.mp c]
            · have c1 : (z.toList == y.toList) = false := beq_eq_false_iff_ne.mpr c
              have c2 : (z.toList != y.toList) = true := bne_iff_ne.mpr c
              go_wp2
              go_roundw
              case measure => simp [intOf]; omega
              case rel =>
                refine ⟨q + 1, by omega, by go_num, ⟨_, rfl, ?_⟩, trivial⟩
                have := HBB.out
                rw [HZ.out]
                simp only [List.mem_append, List.mem_singleton, not_or, true_iff] at this ⊢
                exact ⟨this, fun e => c (by rw [e])⟩
          | false =>
            go_wp2
            go_roundw
            case measure => simp [intOf]; omega
            case rel =>
              refine ⟨q + 1, by omega, by go_num, ⟨_, rfl, ?_⟩, trivial⟩
              have := HBB.out
              rw [HZ.out]
              simp only [Bool.false_eq_true, false_iff, Classical.not_not, List.mem_append] at this ⊢
              exact .inl this
        · have eq : q = L.length := by omega
          have q4 : decide ((q : Int) < (L.length : Int)) = false := decide_eq_false (by omega)
          have q4n : decide (q < L.length) = false := decide_eq_false (by omega)
          have hb2 := HBB.out
          rw [eq, List.take_length] at hb2
          have HB2 := Aside0.mk hb2
          clear hb2 HBB eq hql hq
          cases b with
          | true =>
            have hm : y ∉ L := HB2.out.mp rfl
            go_wp2_with ((with_reducible refine gate_builtin (b := .append) (xs := #[.tmp 57, .tmp 59]) rfl ?_); at_builtin; refine Kd.R_append Kd.string (w0 := w) w.heap.size rfl (.tmp 57) (.tmp 59) 22 9 (.string ⟨#[]⟩) 16 rfl Tryd.underlying22 info9 rfl (by decide) (by omega) (.slice A' L.length c') L y [.string y] (fun k => k ≠ g ∧ k ≠ m) (fun _ => False) rfl rfl ?aP (fun _ hk => hk.elim) ?aF ?aO ?aB ?aS ?aL ?_; (case aP => exact rfl); (case aF => exact HK.out.gm); (case aO => exact HO.out); (case aB => exact HB.out); (case aS => exact HB.out.size); (case aL => have := HL.out; omega); intro v4 w4 ho hb hg hat; have n1_ := Aside0.mk ho; have n2_ := Aside0.mk hb; have n3_ := Aside0.mk (HK.out.move (fun k hk e => hg.block k hk (fun e2 => by have := HO.out.1 k e2.symm; rcases e with e | e; exact this.1 e; exact this.2 e))); clear HO HB HK; have HO := n1_; have HB := n2_; have HK := n3_; clear n1_ n2_ n3_; clear ho hb hg hat)
            go_roundw
            case measure => rw [hwj]; exact meas60 j HLT.out.2
            case rel => exact ⟨j + 1, L ++ [y], _, HLT.out.1, HLT.out.2, by go_num, HI.out.new (Nat.lt_trans HLT.out.2 (by decide)) y HY.out hm, HK.out, HO.out, HB.out⟩
          | false =>
            have hm : y ∈ L := by
              have h := HB2.out
              simp only [Bool.false_eq_true, false_iff, Classical.not_not] at h
              exact h
            go_wp2
            go_roundw
            case measure => rw [hwj]; exact meas60 j HLT.out.2
            case rel => exact ⟨j + 1, L, _, HLT.out.1, HLT.out.2, by go_num, HI.out.old (Nat.lt_trans HLT.out.2 (by decide)) y HY.out hm, HK.out, HO.out, HB.out⟩
    · by_cases c : j < n
      · have q0 : decide ((j : Int) < (n : Int)) = true := decide_eq_true (by omega)
        have q0n : decide (j < n) = true := decide_eq_true (by omega)
        have q1 : decide ((j : Int) < 60) = false := decide_eq_false (by omega)
        clear hlt hjn hj6 c
        have hI := HI.out.state
        rcases hI with h | h
        · obtain ⟨ctw, hne, hdd, hsa, hsb⟩ := h
          have c1 : (s.a.toList == s.b.toList) = false := beq_eq_false_iff_ne.mpr fun h => hne (toList_inj.mp h)
          have c2 : (s.a.toList != s.b.toList) = true := bne_iff_ne.mpr fun h => hne (toList_inj.mp h)
          have c3 : ((dig s.a).toList == (dig s.b).toList) = true := by rw [hdd]; exact beq_self_eq_true _
          have HD := Aside0.mk (And.intro hsa hsb)
          clear HI hne hdd hsa hsb HO
          go_wp2_with (first | (go_at_call 9; fail))
          refine (twins_calls g m s _ HK.out).mono ?_
          rintro e w2 ⟨rfl, hb⟩
          have n1_ := Aside0.mk (below_step HB.out hb)
          have n3_ := Aside0.mk (HK.out.below hb)
          clear HB HK hb
          have HB := n1_
          have HK := n3_
          clear n1_ n3_
          go_wp2_with (first | (go_at_call 10; fail))
          refine (awake_calls _ (SL.below HG.out HB.out)).mono ?_
          rintro e w3 ⟨rfl, hb⟩
          have n1_ := Aside0.mk (below_step HB.out hb)
          have n3_ := Aside0.mk (HK.out.below hb)
          clear HB HK hb
          have HB := n1_
          have HK := n3_
          clear n1_ n3_
          go_wp2_with (first | (go_at_call 8; fail))
          refine (ref_dig s.a (Nat.le_trans HD.out.1 (by decide)) _).mono ?_
          rintro e w4 ⟨rfl, hb⟩
          have n1_ := Aside0.mk (below_step HB.out hb)
          have n3_ := Aside0.mk (HK.out.below hb)
          clear HB HK hb
          have HB := n1_
          have HK := n3_
          clear n1_ n3_
          go_wp2_with (first | (go_at_call 8; fail))
          refine (ref_dig s.b (Nat.le_trans HD.out.2 (by decide)) _).mono ?_
          rintro e w5 ⟨rfl, hb⟩
          have n1_ := Aside0.mk (below_step HB.out hb)
          have n3_ := Aside0.mk (HK.out.below hb)
          clear HB HK hb
          have HB := n1_
          have HK := n3_
          clear n1_ n3_
          go_wp2
          go_ret
          exact ⟨rfl, HB.out⟩
        · obtain ⟨sL, sa, sb, stw, sfl⟩ := s
          simp only at h
          obtain ⟨rfl, rfl, rfl, rfl, rfl⟩ := h
          have hle : (((L.map fun t => (dig t, t)).length : Nat) : Int) = (L.length : Int) := by rw [List.length_map]
          clear HI HO
          go_wp2_with (first | (go_at_call 9; fail))
          refine (twins_calls g m _ _ HK.out).mono ?_
          rintro e w2 ⟨rfl, hb⟩
          have n1_ := Aside0.mk (below_step HB.out hb)
          have n3_ := Aside0.mk (HK.out.below hb)
          clear HB HK hb
          have HB := n1_
          have HK := n3_
          clear n1_ n3_
          go_wp2_with (first | (go_at_call 10; fail))
          refine (awake_calls _ (SL.below HG.out HB.out)).mono ?_
          rintro e w3 ⟨rfl, hb⟩
          have n1_ := Aside0.mk (below_step HB.out hb)
          have n3_ := Aside0.mk (HK.out.below hb)
          clear HB HK hb
          have HB := n1_
          have HK := n3_
          clear n1_ n3_
          go_wp2_with (first | (go_at_call 11; fail))
          refine (len_calls g m _ _ HK.out).mono ?_
          rintro e w4 ⟨rfl, hb⟩
          have n1_ := Aside0.mk (below_step HB.out hb)
          have n3_ := Aside0.mk (HK.out.below hb)
          clear HB HK hb
          have HB := n1_
          have HK := n3_
          clear n1_ n3_
          go_wp2_with (first | (go_at_call 12; fail))
          refine (full_calls g m _ _ HK.out).mono ?_
          rintro e w5 ⟨rfl, hb⟩
          have n1_ := Aside0.mk (below_step HB.out hb)
          have n3_ := Aside0.mk (HK.out.below hb)
          clear HB HK hb
          have HB := n1_
          have HK := n3_
          clear n1_ n3_
          go_wp2
          go_ret
          exact ⟨rfl, HB.out⟩
      · have q0 : decide ((j : Int) < (n : Int)) = false := decide_eq_false (by omega)
        have q0n : decide (j < n) = false := decide_eq_false (by omega)
        clear hlt hjn hj6 c
        have hI := HI.out.state
        rcases hI with h | h
        · obtain ⟨ctw, hne, hdd, hsa, hsb⟩ := h
          have c1 : (s.a.toList == s.b.toList) = false := beq_eq_false_iff_ne.mpr fun h => hne (toList_inj.mp h)
          have c2 : (s.a.toList != s.b.toList) = true := bne_iff_ne.mpr fun h => hne (toList_inj.mp h)
          have c3 : ((dig s.a).toList == (dig s.b).toList) = true := by rw [hdd]; exact beq_self_eq_true _
          have HD := Aside0.mk (And.intro hsa hsb)
          clear HI hne hdd hsa hsb HO
          go_wp2_with (first | (go_at_call 9; fail))
          refine (twins_calls g m s _ HK.out).mono ?_
          rintro e w2 ⟨rfl, hb⟩
          have n1_ := Aside0.mk (below_step HB.out hb)
          have n3_ := Aside0.mk (HK.out.below hb)
          clear HB HK hb
          have HB := n1_
          have HK := n3_
          clear n1_ n3_
          go_wp2_with (first | (go_at_call 10; fail))
          refine (awake_calls _ (SL.below HG.out HB.out)).mono ?_
          rintro e w3 ⟨rfl, hb⟩
          have n1_ := Aside0.mk (below_step HB.out hb)
          have n3_ := Aside0.mk (HK.out.below hb)
          clear HB HK hb
          have HB := n1_
          have HK := n3_
          clear n1_ n3_
          go_wp2_with (first | (go_at_call 8; fail))
          refine (ref_dig s.a (Nat.le_trans HD.out.1 (by decide)) _).mono ?_
          rintro e w4 ⟨rfl, hb⟩
          have n1_ := Aside0.mk (below_step HB.out hb)
          have n3_ := Aside0.mk (HK.out.below hb)
          clear HB HK hb
          have HB := n1_
          have HK := n3_
          clear n1_ n3_
          go_wp2_with (first | (go_at_call 8; fail))
          refine (ref_dig s.b (Nat.le_trans HD.out.2 (by decide)) _).mono ?_
          rintro e w5 ⟨rfl, hb⟩
          have n1_ := Aside0.mk (below_step HB.out hb)
          have n3_ := Aside0.mk (HK.out.below hb)
          clear HB HK hb
          have HB := n1_
          have HK := n3_
          clear n1_ n3_
          go_wp2
          go_ret
          exact ⟨rfl, HB.out⟩
        · obtain ⟨sL, sa, sb, stw, sfl⟩ := s
          simp only at h
          obtain ⟨rfl, rfl, rfl, rfl, rfl⟩ := h
          have hle : (((L.map fun t => (dig t, t)).length : Nat) : Int) = (L.length : Int) := by rw [List.length_map]
          clear HI HO
          go_wp2_with (first | (go_at_call 9; fail))
          refine (twins_calls g m _ _ HK.out).mono ?_
          rintro e w2 ⟨rfl, hb⟩
          have n1_ := Aside0.mk (below_step HB.out hb)
          have n3_ := Aside0.mk (HK.out.below hb)
          clear HB HK hb
          have HB := n1_
          have HK := n3_
          clear n1_ n3_
          go_wp2_with (first | (go_at_call 10; fail))
          refine (awake_calls _ (SL.below HG.out HB.out)).mono ?_
          rintro e w3 ⟨rfl, hb⟩
          have n1_ := Aside0.mk (below_step HB.out hb)
          have n3_ := Aside0.mk (HK.out.below hb)
          clear HB HK hb
          have HB := n1_
          have HK := n3_
          clear n1_ n3_
          go_wp2_with (first | (go_at_call 11; fail))
          refine (len_calls g m _ _ HK.out).mono ?_
          rintro e w4 ⟨rfl, hb⟩
          have n1_ := Aside0.mk (below_step HB.out hb)
          have n3_ := Aside0.mk (HK.out.below hb)
          clear HB HK hb
          have HB := n1_
          have HK := n3_
          clear n1_ n3_
          go_wp2_with (first | (go_at_call 12; fail))
          refine (full_calls g m _ _ HK.out).mono ?_
          rintro e w5 ⟨rfl, hb⟩
          have n1_ := Aside0.mk (below_step HB.out hb)
          have n3_ := Aside0.mk (HK.out.below hb)
          clear HB HK hb
          have HB := n1_
          have HK := n3_
          clear n1_ n3_
          go_wp2
          go_ret
          exact ⟨rfl, HB.out⟩
end Go.Proofs.YtdkgdmjikoehaaaDoor.Bk
