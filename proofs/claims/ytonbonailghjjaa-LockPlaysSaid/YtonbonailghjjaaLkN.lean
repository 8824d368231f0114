/- Is held what must be (right), walked. -/
import Derived.Test.YtonbonailghjjaaLkM
import Derived.Test.YtonbonailghjjaaLkH
namespace Go.Proofs.Ytonbonailghjjaa.Lk
open Go.RowKit Go.Proofs.YtonbonailghjjaaW.PrintWords Go.Proofs.YtonbonailghjjaaW.PrintLast Go.Proofs.YtonbonailghjjaaW.PrintMore Go.Proofs.Ytonbonailghjjaa.XB Go.Proofs.Ytonbonailghjjaa.PLockMost
attribute [local go_sem] max2_int min2_int max_two min_two max_three min_three max_four min_four
set_option linter.unusedVariables false
set_option linter.unusedSimpArgs false
variable {w w' : World} {p : At} {rv : Value} {l : List S51}
/-- who holds what, how, in cells -/
structure Mat (cs : Array Value) (m : Nat → Nat → Int) : Prop where
  size : cs.size = 96
  at_ : ∀ i k, i < 16 → k < 6 → cs[i * 6 + k]? = some (.int .i64 (m i k))
/-- of the first n, those that hold a thing -/
def holders (m : Nat → Nat → Int) (k n : Nat) : List Int := ((List.range n).filter (fun x => m x k != 0)).map (fun (x : Nat) => (x : Int))
def any2 (m : Nat → Nat → Int) (k n : Nat) : Bool := (List.range n).any (fun x => m x k == 2)
def cnt (m : Nat → Nat → Int) (x j : Nat) : Nat := ((List.range j).filter (fun k => decide (0 < m x k))).length
def things (m : Nat → Nat → Int) (j : Nat) : Nat := ((List.range j).filter (fun k => !(holders m k 16).isEmpty)).length
theorem holders_succ (m : Nat → Nat → Int) (k n : Nat) : holders m k (n + 1) = holders m k n ++ (if m n k = 0 then [] else [(n : Int)]) := by
  unfold holders
  rw [List.range_succ, List.filter_append, List.map_append]
  congr 1
  by_cases h : m n k = 0
  · rw [if_pos h]; simp [h]
  · rw [if_neg h]; simp [h]
theorem any2_succ (m : Nat → Nat → Int) (k n : Nat) : any2 m k (n + 1) = (any2 m k n || m n k == 2) := by
  unfold any2
  rw [List.range_succ, List.any_append, List.any_cons, List.any_nil, Bool.or_false]
theorem cnt_succ (m : Nat → Nat → Int) (x j : Nat) : cnt m x (j + 1) = cnt m x j + (if 0 < m x j then 1 else 0) := by
  unfold cnt
  rw [List.range_succ, List.filter_append, List.length_append]
  congr 1
  by_cases h : 0 < m x j
  · rw [if_pos h]; simp [h]
  · rw [if_neg h]; simp [h]
theorem things_succ (m : Nat → Nat → Int) (j : Nat) : things m (j + 1) = things m j + (if (holders m j 16).isEmpty then 0 else 1) := by
  unfold things
  rw [List.range_succ, List.filter_append, List.length_append]
  congr 1
  by_cases h : (holders m j 16).isEmpty = true
  · rw [if_pos h]; simp [h]
  · rw [if_neg h]; simp [h]
theorem holders_le (m : Nat → Nat → Int) (k n : Nat) : (holders m k n).length ≤ n := by
  unfold holders
  rw [List.length_map]
  exact Nat.le_trans (List.length_filter_le _ _) (by simp)
theorem cnt_le (m : Nat → Nat → Int) (x j : Nat) : cnt m x j ≤ j := Nat.le_trans (List.length_filter_le _ _) (by simp)
theorem things_le (m : Nat → Nat → Int) (j : Nat) : things m j ≤ j := Nat.le_trans (List.length_filter_le _ _) (by simp)
/-- the elder ones begin the list -/
theorem holders_pre (m : Nat → Nat → Int) (k n d : Nat) : ∃ r, holders m k (n + d) = holders m k n ++ r := by
  induction d with
  | zero => exact ⟨[], by simp⟩
  | succ d ih =>
    obtain ⟨r, h⟩ := ih
    exact ⟨_, by rw [← Nat.add_assoc, holders_succ, h, List.append_assoc]⟩
theorem holders_at (m : Nat → Nat → Int) (k n : Nat) (hn : n < 16) (h : m n k ≠ 0) : (holders m k n).length < (holders m k 16).length ∧ rd (holders m k 16) ((holders m k n).length : Nat) = (n : Int) := by
  obtain ⟨r, hr⟩ := holders_pre m k (n + 1) (16 - (n + 1))
  rw [holders_succ m k n, if_neg h, show n + 1 + (16 - (n + 1)) = 16 from by omega] at hr
  rw [hr]
  refine ⟨by simp, ?_⟩
  simp [rd, List.getD_eq_getElem?_getD]
/-- the table is what the matrix says -/
structure Fits (l : List S51) (m : Nat → Nat → Int) (nm : Nat → ByteArray) : Prop where
  who : ∀ k, k < 6 → whoL l (nm k) = holders m k 16
  alo : ∀ k, k < 6 → aloneL l (nm k) = any2 m k 16
  one : ∀ k, k < 6 → any2 m k 16 = true → (holders m k 16).length ≤ 1
  hel : ∀ x : Nat, x < 16 → held l (x : Int) = cnt m x 6
  len : l.length = things m 6
theorem meas6 {j n : Nat} (h : j < n) : n - ((j : Int) + 1).toNat < n - ((j : Int)).toNat := by omega
set_option maxHeartbeats 20000000 in
set_option maxRecDepth 100000 in
theorem right_calls (h : Tab w p rv l) (cs : Array Value) (m : Nat → Nat → Int) (hm : Mat cs m) (nm : Nat → ByteArray) (gn cn : Nat) (hnm : ∀ k, k < 6 → w.cell? ⟨gn, k, none⟩ = some (.string (nm k))) (hf : Fits l m nm) :
    Calls Try.prog 9 #[.pointer (some ⟨p.g, 0, none⟩), .agg cs, .slice (some ⟨gn, 0, none⟩) 6 cn] w fun e w' => e = .returned (.bool true) ∧ Below w.heap.size w w' := by
  have HT := Aside0.mk h
  have HM := Aside0.mk hm
  have HN := Aside0.mk hnm
  have HF := Aside0.mk hf
  clear h hm hnm hf
  go_enter Try.func9, Try.ntmps9
  go_wp2_with (first | (with_reducible refine gate_dst (N := 4) rfl ?_); refine box_event ?hg (N := 4) ?hd (cs := cs) (t := 27) ?hr ?_; (case hd => rfl); (case hg => rfl); (case hr => first | (go_simp; done) | (go_simp; rfl)); intro gb hg w2 hbox hb; have HB := Aside0.mk hb; have BK := Aside0.mk hbox; clear hb hbox hg)
  have H2 := Aside0.mk (HT.out.below HB.out)
  have HN2 := Aside0.mk (show ∀ k, k < 6 → w2.cell? ⟨gn, k, none⟩ = some (.string (nm k)) from fun k hk => pw_cell_below HB.out (HN.out k hk))
  have MC := Aside0.mk (show ∀ i k, i < 16 → k < 6 → w2.cell? ⟨gb, i * 6 + k, none⟩ = some (.int .i64 (m i k)) from fun i k hi hk => (blk_cell BK.out _).trans (HM.out.at_ i k hi hk))
  clear HT HN HM BK
  go_loopw [7, 8] (fun t i w' => ∃ j : Nat, j ≤ 6 ∧ t = .int .i64 (things m j : Nat) ∧ i = .int .i64 (j : Int) ∧ Below w2.heap.size w2 w') (fun _ i _ => 6 - (intOf i).toNat)
  case atStart => exact ⟨0, Nat.zero_le _, rfl, rfl, Below.refl _ _⟩
  case round =>
    obtain ⟨j, hj, rfl, rfl, hB⟩ := hrel
    have WB := Aside0.mk hB
    clear hB
    by_cases hlt : j < 6
    · have q0 : decide ((j : Int) < 6) = true := decide_eq_true (by omega)
      have q0n : decide (j < 6) = true := decide_eq_true hlt
      have i0 : (0 : Int) ≤ (j : Int) := by omega
      have i1 : (j : Int) < 6 := by omega
      have cn0 := pw_cell_below WB.out (HN2.out j hlt)
      go_wp2_with (first | (go_at_call 10; fail))
      refine (who_calls (H2.out.below WB.out) (nm j)).mono ?_
      rw [HF.out.who j hlt, HF.out.alo j hlt]
      rintro e w5 ⟨A5, c5, rfl, hR, hb⟩
      have WB5 := Aside0.mk (below_step WB.out hb)
      have C5 := Aside0.mk (Kd.R_reads' hR).2.2
      have HL16 := Aside0.mk (holders_le m j 16)
      clear hR hb cn0
      obtain ⟨H, hH⟩ : ∃ H, holders m j 16 = H := ⟨_, rfl⟩
      obtain ⟨T2, hT2⟩ : ∃ T2, any2 m j 16 = T2 := ⟨_, rfl⟩
      rw [hH] at C5 HL16 ⊢
      rw [hT2]
      have EH := Aside0.mk hH
      have ET := Aside0.mk hT2
      clear hH hT2
      go_wp2
      go_loopw [11, 12, 13] (fun n is x w' => ∃ i : Nat, i ≤ 16 ∧ n = .int .i64 ((holders m j i).length : Nat) ∧ is = .bool (any2 m j i) ∧ x = .int .i64 (i : Int) ∧ Below w5.heap.size w5 w') (fun _ _ x _ => 16 - (intOf x).toNat)
      case atStart => exact ⟨0, Nat.zero_le _, rfl, rfl, rfl, Below.refl _ _⟩
      case round =>
        obtain ⟨i, hi, rfl, rfl, rfl, hB⟩ := hrel
        have WI := Aside0.mk hB
        clear hB
        by_cases hli : i < 16
        · have r0 : decide ((i : Int) < 16) = true := decide_eq_true (by omega)
          have r0n : decide (i < 16) = true := decide_eq_true hli
          have x0 : (0 : Int) ≤ (i : Int) := by omega
          have x1 : (i : Int) < 16 := by omega
          have mc := pw_cell_below (below_step WB5.out WI.out) (MC.out i j hli hlt)
          obtain ⟨v, hv⟩ : ∃ v, m i j = v := ⟨_, rfl⟩
          have HV := Aside0.mk hv
          rw [hv] at mc
          have hnn := Aside0.mk (holders_le m j i)
          have hS := Aside0.mk (holders_succ m j i)
          have hA := Aside0.mk (any2_succ m j i)
          have hP := Aside0.mk (holders_at m j i hli)
          rw [hv] at hS hA hP
          rw [EH.out] at hP
          obtain ⟨N, hN⟩ : ∃ N, (holders m j i).length = N := ⟨_, rfl⟩
          rw [hN] at hnn hP ⊢
          obtain ⟨bb, hbb⟩ : ∃ bb, any2 m j i = bb := ⟨_, rfl⟩
          rw [hbb] at hA ⊢
          have HNN := Aside0.mk hN
          clear hN hbb hv
          by_cases h0 : v = 0
          · subst h0
            go_wp2
            exact ⟨⟨i + 1, hli, by rw [hS.out, if_pos rfl, List.append_nil, HNN.out], by rw [hA.out]; cases bb <;> rfl, by go_num, WI.out⟩, meas6 hli⟩
          · obtain ⟨hp1, hp2⟩ := hP.out h0
            have hA' := hA.out
            have n0 : (0 : Int) ≤ (N : Int) := by omega
            have n1 : (N : Int) < (H.length : Int) := by omega
            obtain ⟨ad, hA5, hc⟩ := Kd.at_int (Kd.C_below C5.out WI.out) (N : Int) n0 n1
            rw [hp2, Int.toNat_natCast] at hc
            subst hA5
            have n2 : decide ((H.length : Int) ≤ (N : Int)) = false := decide_eq_false (by omega)
            have n3 : decide (H.length ≤ N) = false := decide_eq_false (by omega)
            have v1 : (v == 0) = false := beq_eq_false_iff_ne.mpr h0
            have hn1 := Aside0.mk (show wrap64 ((N : Int) + 1) = ((N + 1 : Nat) : Int) from by have := hnn.out; rw [w64 (by omega) (by omega)]; omega)
            have hS' := Aside0.mk (show (holders m j (i + 1)).length = N + 1 from by rw [hS.out, if_neg h0, List.length_append, HNN.out]; rfl)
            clear hp1 hp2
            have hA2 := Aside0.mk (show any2 m j (i + 1) = (bb || v == 2) from hA')
            clear hA'
            cases bb with
            | true =>
              go_wp2
              go_region
              rw [hn1.out]
              go_wp2
              exact ⟨⟨i + 1, hli, by rw [hS'.out], by rw [hA2.out]; rfl, by go_num, below_drew1 WI.out⟩, meas6 hli⟩
            | false =>
              go_wp2
              go_region
              rw [hn1.out]
              go_wp2
              exact ⟨⟨i + 1, hli, by rw [hS'.out], by rw [hA2.out]; rfl, by go_num, below_drew1 WI.out⟩, meas6 hli⟩
        · obtain rfl : i = 16 := by omega
          have r0 : decide (((16 : Nat) : Int) < 16) = false := by decide
          have r1 : decide ((16 : Int) < 16) = false := by decide
          rw [EH.out, ET.out]
          have one := HF.out.one j hlt
          rw [EH.out, ET.out] at one
          have hth := Aside0.mk (things_succ m j)
          rw [EH.out] at hth
          have hgt : T2 = true → decide ((1 : Int) < (H.length : Int)) = false := fun h => decide_eq_false (by have := one h; omega)
          have hgt2 : T2 = true → decide (1 < H.length) = false := fun h => decide_eq_false (by have := one h; omega)
          have tl := things_le m j
          obtain ⟨th, hth0⟩ : ∃ th, things m j = th := ⟨_, rfl⟩
          rw [hth0] at hth tl ⊢
          have t1 := Aside0.mk (show wrap64 ((th : Int) + 1) = ((th + 1 : Nat) : Int) from by rw [w64 (by omega) (by omega)]; omega)
          have TH := Aside0.mk hth0
          have WQ := Aside0.mk (below_step WB5.out WI.out)
          clear one hth0 tl
          by_cases hH0 : H.length = 0
          · have he : H.isEmpty = true := by rw [List.isEmpty_iff]; exact List.eq_nil_of_length_eq_zero hH0
            rw [he, if_pos rfl] at hth
            have g0 : decide ((0 : Int) < (H.length : Int)) = false := decide_eq_false (by omega)
            have g1 : decide (0 < H.length) = false := decide_eq_false (by omega)
            cases T2 with
            | true =>
              have g2 := hgt rfl
              have g3 := hgt2 rfl
              clear hgt hgt2
              go_wp2
              exact ⟨⟨j + 1, hlt, by rw [hth.out]; rfl, by go_num, WQ.out⟩, meas6 hlt⟩
            | false =>
              clear hgt hgt2
              go_wp2
              exact ⟨⟨j + 1, hlt, by rw [hth.out]; rfl, by go_num, WQ.out⟩, meas6 hlt⟩
          · have he : H.isEmpty = false := by cases H with | nil => exact absurd rfl hH0 | cons _ _ => rfl
            rw [he, if_neg (by decide)] at hth
            have g0 : decide ((0 : Int) < (H.length : Int)) = true := decide_eq_true (by omega)
            have g1 : decide (0 < H.length) = true := decide_eq_true (by omega)
            cases T2 with
            | true =>
              have g2 := hgt rfl
              have g3 := hgt2 rfl
              clear hgt hgt2
              go_wp2
              exact ⟨⟨j + 1, hlt, by rw [hth.out, t1.out], by go_num, WQ.out⟩, meas6 hlt⟩
            | false =>
              clear hgt hgt2
              go_wp2
              exact ⟨⟨j + 1, hlt, by rw [hth.out, t1.out], by go_num, WQ.out⟩, meas6 hlt⟩
    · obtain rfl : j = 6 := by omega
      have q0 : decide (((6 : Nat) : Int) < 6) = false := by decide
      have q1 : decide ((6 : Int) < 6) = false := by decide
      rw [← HF.out.len, show ((6 : Nat) : Int) = 6 from rfl]
      obtain ⟨LL, hLL⟩ : ∃ LL, l.length = LL := ⟨_, rfl⟩
      have ELL := Aside0.mk hLL
      rw [hLL]
      clear hLL
      go_wp2
      rename_i w3
      go_loopw [14] (fun x w' => ∃ i : Nat, i ≤ 16 ∧ x = .int .i64 (i : Int) ∧ Below w2.heap.size w2 w') (fun x _ => 16 - (intOf x).toNat)
      case atStart => exact ⟨0, Nat.zero_le _, rfl, WB.out⟩
      case round =>
        clear WB
        obtain ⟨i, hi, rfl, hB⟩ := hrel
        have WI := Aside0.mk hB
        clear hB
        by_cases hli : i < 16
        · have r0 : decide ((i : Int) < 16) = true := decide_eq_true (by omega)
          have r0n : decide (i < 16) = true := decide_eq_true hli
          have x0 : (0 : Int) ≤ (i : Int) := by omega
          have x1 : (i : Int) < 16 := by omega
          go_wp2
          go_loopw [15, 16] (fun n k w' => ∃ j : Nat, j ≤ 6 ∧ n = .int .i64 (cnt m i j : Nat) ∧ k = .int .i64 (j : Int) ∧ Below w2.heap.size w2 w') (fun _ k _ => 6 - (intOf k).toNat)
          case atStart => exact ⟨0, Nat.zero_le _, rfl, rfl, WI.out⟩
          case round =>
            clear WI
            obtain ⟨j, hj, rfl, rfl, hB⟩ := hrel
            have WJ := Aside0.mk hB
            clear hB
            have cl := cnt_le m i j
            have hcs := Aside0.mk (cnt_succ m i j)
            by_cases hlt : j < 6
            · have q0 : decide ((j : Int) < 6) = true := decide_eq_true (by omega)
              have q0n : decide (j < 6) = true := decide_eq_true hlt
              have i0 : (0 : Int) ≤ (j : Int) := by omega
              have i1 : (j : Int) < 6 := by omega
              have mc := pw_cell_below WJ.out (MC.out i j hli hlt)
              obtain ⟨v, hv⟩ : ∃ v, m i j = v := ⟨_, rfl⟩
              rw [hv] at mc hcs
              obtain ⟨cn, hcn⟩ : ∃ cn, cnt m i j = cn := ⟨_, rfl⟩
              rw [hcn] at hcs cl ⊢
              clear hcn hv
              by_cases h0 : 0 < v
              · have v0 : decide (0 < v) = true := decide_eq_true h0
                rw [if_pos h0] at hcs
                go_wp2
                exact ⟨⟨j + 1, hlt, by rw [hcs.out]; first | rfl | go_num, by go_num, WJ.out⟩, meas6 hlt⟩
              · have v0 : decide (0 < v) = false := decide_eq_false h0
                rw [if_neg h0] at hcs
                go_wp2
                exact ⟨⟨j + 1, hlt, by rw [hcs.out]; rfl, by go_num, WJ.out⟩, meas6 hlt⟩
            · obtain rfl : j = 6 := by omega
              have q0 : decide (((6 : Nat) : Int) < 6) = false := by decide
              have q1 : decide ((6 : Int) < 6) = false := by decide
              have hh := Aside0.mk (HF.out.hel i hli)
              obtain ⟨cn, hcn⟩ : ∃ cn, cnt m i 6 = cn := ⟨_, rfl⟩
              rw [hcn] at hh ⊢
              clear hcn
              have cc : ((cn : Int) == (cn : Int)) = true := beq_self_eq_true _
              go_wp2_with (first | (go_at_call 12; fail))
              refine (held_calls (H2.out.below WJ.out) (i : Int)).mono ?_
              rw [hh.out]
              rintro e w6 ⟨rfl, hb⟩
              have W6 := Aside0.mk (below_step WJ.out hb)
              clear hb
              go_wp2
              go_roundw
              case measure => exact meas6 hli
              case rel => exact ⟨i + 1, hli, by go_num, W6.out⟩
        · obtain rfl : i = 16 := by omega
          have r0 : decide (((16 : Nat) : Int) < 16) = false := by decide
          have r1 : decide ((16 : Int) < 16) = false := by decide
          go_wp2_with (first | (go_at_call 11; fail))
          refine (len_calls (H2.out.below WI.out)).mono ?_
          rw [ELL.out]
          rintro e w6 ⟨rfl, hb⟩
          have W6 := Aside0.mk (below_step WI.out hb)
          clear hb
          go_wp2
          go_ret
          refine ⟨?_, below_step HB.out W6.out⟩
          first | rfl | simp
end Go.Proofs.Ytonbonailghjjaa.Lk
