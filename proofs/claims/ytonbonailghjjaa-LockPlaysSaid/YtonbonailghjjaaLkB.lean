/- How many things one holds (Held); slices.Clone of numbers. -/
import Derived.Test.YtonbonailghjjaaLkA
import Derived.Laws.CopyRow
namespace Go.Proofs.Ytonbonailghjjaa.Lk
open Go.RowKit Go.Proofs.YtonbonailghjjaaW.PrintWords Go.Proofs.YtonbonailghjjaaW.PrintLast Go.Proofs.YtonbonailghjjaaW.PrintMore Go.Proofs.Ytonbonailghjjaa.XB Go.Proofs.Ytonbonailghjjaa.PLockMost
attribute [local go_sem] max2_int min2_int max_two min_two max_three min_three max_four min_four
set_option linter.unusedVariables false
set_option linter.unusedSimpArgs false
variable {w w' : World} {p : At} {rv : Value} {l : List S51}
/-- how many of them one holds -/
def held (l : List S51) (who : Int) : Nat := (l.filter (fun x => cont x.f1 who)).length
theorem held_succ (l : List S51) (who : Int) (j : Nat) (hj : j < l.length) : held (l.take (j + 1)) who = held (l.take j) who + (if cont (rd_T51 l (j : Int)).f1 who then 1 else 0) := by
  have e : rd_T51 l (j : Int) = l[j] := by simp [rd_T51, List.getD_eq_getElem?_getD, List.getElem?_eq_getElem hj]
  unfold held
  rw [e, List.take_succ_eq_append_getElem hj, List.filter_append, List.length_append]
  congr 1
  by_cases c : cont l[j].f1 who = true
  · rw [if_pos c]; simp [c]
  · rw [if_neg c]; simp [c]
theorem held_le (l : List S51) (who : Int) : held l who ≤ l.length := List.length_filter_le _ _
theorem num1 {a j : Nat} (h : a ≤ j) (hj : j < 1000000) : wrap64 ((a : Int) + 1) = (a : Int) + 1 := w64 (by omega) (by omega)
set_option maxHeartbeats 8000000 in
set_option maxRecDepth 100000 in
theorem held_nil (who : Int) (w : World) : Calls Try.prog 12 #[.pointer none, .int .i64 who] w fun e w' => e = .returned (.int .i64 0) ∧ Below w.heap.size w w' := by
  go_enter Try.func12, Try.ntmps12
  go_wp2
  go_ret
  exact ⟨rfl, Below.refl _ _⟩
set_option maxHeartbeats 2000000 in
set_option maxRecDepth 100000 in
theorem held_calls (h : Tab w p rv l) (who : Int) : Calls Try.prog 12 #[.pointer (some ⟨p.g, 0, none⟩), .int .i64 who] w fun e w' => e = .returned (.int .i64 (held l who : Nat)) ∧ Below w.heap.size w w' := by
  obtain ⟨A, c, hrv, _, hC⟩ := Kd.R_reads h.row
  subst hrv
  have h1 : w.cell? ⟨p.g, 0, none⟩ = some (.slice A l.length c) := blk_cell h.cells 0
  have HC := Aside0.mk hC
  have HS := Aside0.mk h.small
  have HW := Aside0.mk h.wide
  have HB := Aside0.mk (Below.refl w.heap.size w)
  clear hC h
  go_enter Try.func12, Try.ntmps12
  go_wp2
  go_loopw [5, 15] (fun v5 v15 w' => ∃ (j : Nat), j ≤ l.length ∧ v15 = .int .i64 (j : Int) ∧ v5 = .int .i64 (held (l.take j) who : Nat) ∧ Aside0 (Below w.heap.size w w')) (fun _ i _ => l.length - (intOf i).toNat)
  case atStart => exact ⟨0, Nat.zero_le _, rfl, rfl, HB⟩
  case round =>
    clear HB
    obtain ⟨j, hj, rfl, rfl, HB⟩ := hrel
    by_cases hlt : j < l.length
    · have q0 : decide ((j : Int) < (l.length : Int)) = true := decide_eq_true (by omega)
      have q0n : decide (j < l.length) = true := decide_eq_true hlt
      have q2 : (0 : Int) ≤ j := by omega
      have q3 : (j : Int) < (l.length : Int) := by omega
      obtain ⟨ad, A1, c1, hA, y0, y1, y2, hlen, hC1⟩ := at_T51 (Kd.C_below HC.out HB.out) (j : Int) q2 q3
      rw [Int.toNat_natCast] at y0 y1 y2
      subst hA
      have hmem : rd_T51 l (j : Int) ∈ l := by
        have e : rd_T51 l (j : Int) = l[j] := by simp [rd_T51, List.getD_eq_getElem?_getD, List.getElem?_eq_getElem hlt]
        rw [e]; exact List.getElem_mem hlt
      have hw1 := HW.out _ hmem
      have HH := Aside0.mk (held_succ l who j hlt)
      obtain ⟨a, ha⟩ : ∃ a, a = held (l.take j) who := ⟨_, rfl⟩
      have hn := Aside0.mk (num1 (show a ≤ j by rw [ha]; exact Nat.le_trans (held_le _ _) (by rw [List.length_take]; omega)) (Nat.lt_trans hlt HS.out))
      have hwj := Aside0.mk (num1 (Nat.le_refl j) (Nat.lt_trans hlt HS.out))
      rw [← ha] at HH ⊢
      clear ha hmem
      obtain ⟨x, hx⟩ : ∃ x, rd_T51 l (j : Int) = x := ⟨_, rfl⟩
      rw [hx] at y0 y1 y2 hlen hC1 hw1 HH
      clear hx
      have hnb := heap_alloc_new wr (.cells #[.string x.f0, .slice A1 x.f1.length c1, .int .i64 x.f2] 51)
      have z1 : (wr.alloc (.cells #[.string x.f0, .slice A1 x.f1.length c1, .int .i64 x.f2] 51)).cell? ⟨wr.heap.size, 1, none⟩ = some (.slice A1 x.f1.length c1) := blk_cell hnb 1
      have HCC := Aside0.mk (Kd.C_alloc hC1 (.cells #[.string x.f0, .slice A1 x.f1.length c1, .int .i64 x.f2] 51))
      have HLE := Aside0.mk hlen
      have HW1 := Aside0.mk hw1
      clear hnb hC1 hlen hw1
      go_wp2_with (first | (go_at_call 13; fail))
      refine (contains_calls A1 c1 x.f1 who _ HCC.out HLE.out (Nat.lt_trans HW1.out (by decide))).mono ?_
      rintro e w1 ⟨rfl, hb⟩
      have HB1 := Aside0.mk (below_step (below_alloc HB.out _) hb)
      clear hb HB y0 y1 y2 z1
      cases hc : cont x.f1 who with
      | true =>
        have HH2 := Aside0.mk (show held (l.take (j + 1)) who = a + 1 by rw [HH.out, hc]; rfl)
        have hn1 := hn.out
        have hj1 := hwj.out
        clear HH hc hn hwj
        go_wp2
        rw [hn1, hj1]
        exact ⟨⟨j + 1, hlt, rfl, by rw [HH2.out]; rfl, HB1⟩, measn hlt⟩
      | false =>
        have HH2 := Aside0.mk (show held (l.take (j + 1)) who = a by rw [HH.out, hc]; rfl)
        have hj1 := hwj.out
        clear HH hc hn hwj
        go_wp2
        rw [hj1]
        exact ⟨⟨j + 1, hlt, rfl, by rw [HH2.out], HB1⟩, measn hlt⟩
    · have q0 : decide ((j : Int) < (l.length : Int)) = false := decide_eq_false (by omega)
      have q0n : decide (j < l.length) = false := decide_eq_false hlt
      have e1 := Aside0.mk (show l.take j = l from List.take_of_length_le (by omega))
      go_wp2
      go_ret
      exact ⟨by rw [e1.out]; rfl, HB.out⟩
theorem info3 : (Try.prog.info? 3).map (fun i => (i.zero, i.size, i.bytes)) = some (some (.int .i64 0), 1, 8) := by kernel_rfl
set_option maxHeartbeats 8000000 in
set_option maxRecDepth 100000 in
theorem clone_calls (A : Option Addr) (c : Nat) (xs : List Int) (w : World) (hr : Kd.C (Kd.int .i64) w A xs.length xs) (hl : xs.length < 1000000) :
    Calls Try.prog 15 #[.slice A xs.length c] w fun e w' => ∃ v, e = .returned v ∧ Kd.R (Kd.int .i64) 3 w' w.heap.size (fun _ => True) v xs ∧ Below w.heap.size w w' := by
  have HR := Aside0.mk hr
  have HL := Aside0.mk hl
  have q_ := fun (W : World) => Lib.run_eql_slice_nil (P := Try.prog) W 33 3 A xs.length c 0 0 Try.underlying33
  cases A with
  | none =>
    have hx : xs = [] := by
      rcases Nat.eq_zero_or_pos xs.length with h | h
      · exact List.eq_nil_of_length_eq_zero h
      · obtain ⟨ad, e, _⟩ := HR.out.2.2 h
        cases e
    subst hx
    have q1_ : ∀ W : World, (binOp .eql 33 (.slice none 0 c) (.slice none 0 0)).run Try.prog W = .ok (.bool true) W := fun W => q_ W
    clear hr hl HR HL q_
    go_enter Try.func15, Try.ntmps15
    go_wp2
    go_ret
    exact ⟨_, rfl, Kd.R_nil _ _ _ _ _, Below.refl _ _⟩
  | some ad =>
    clear hr hl
    go_enter Try.func15, Try.ntmps15
    go_wp2_with (at_builtin; refine Kd.R_append_rows (w0 := w) (Kd.int .i64) w.heap.size rfl _ _ 33 3 (.int .i64 0) 8 rfl Try.underlying33 ?qi ?q1 ?q2 ?q3 (.slice (some ⟨w.heap.size, 0, none⟩) 0 0) [] xs (some ad) xs.length c (fun _ => True) (fun _ => False) rfl rfl ?q4 (Kd.C_below HR.out (below_alloc (Below.refl _ _) _)) ?q5 ?q6 ?q7 (below_alloc (Below.refl _ _) _) ?q8 ?q9 ?_)
    case qi => kernel_rfl
    case q1 => rfl
    case q2 => decide
    case q3 => decide
    case q4 => exact ⟨fun _ _ => trivial, [], World.ownsRow_made w #[] 0 (Nat.le_refl _) (Nat.zero_le _) rfl, Reps.none _ _⟩
    case q5 => exact fun _ _ h => h
    case q6 => exact fun _ h => h.elim
    case q7 => exact fun _ _ => trivial
    case q8 => simp
    case q9 => have := HL.out; simp; omega
    intro v1 w1 hR hB hG hO
    obtain ⟨A3, c3, hv1⟩ := Kd.R_slice hR
    have HB := Aside0.mk hB
    have HR1 := Aside0.mk hR
    clear hR hB hG hO hv1
    go_wp2
    go_ret
    exact ⟨v1, rfl, HR1.out, HB.out⟩
end Go.Proofs.Ytonbonailghjjaa.Lk
