/- New, Len, Who of none, awake, walked. -/
import Derived.Test.YtonbonailghjjaaLkG
namespace Go.Proofs.Ytonbonailghjjaa.Lk
open Go.RowKit Go.Proofs.YtonbonailghjjaaW.PrintWords Go.Proofs.YtonbonailghjjaaW.PrintLast Go.Proofs.YtonbonailghjjaaW.PrintMore Go.Proofs.Ytonbonailghjjaa.XB Go.Proofs.Ytonbonailghjjaa.PLockMost
attribute [local go_sem] max2_int min2_int max_two min_two max_three min_three max_four min_four
set_option linter.unusedVariables false
set_option linter.unusedSimpArgs false
variable {w w' : World} {p : At} {rv : Value} {l : List S51}
set_option maxHeartbeats 8000000 in
set_option maxRecDepth 100000 in
theorem len_nil (w : World) : Calls Try.prog 11 #[.pointer none] w fun e w' => e = .returned (.int .i64 0) ∧ Below w.heap.size w w' := by
  go_enter Try.func11, Try.ntmps11
  go_wp2
  go_ret
  exact ⟨rfl, Below.refl _ _⟩
set_option maxHeartbeats 8000000 in
set_option maxRecDepth 100000 in
theorem len_calls (h : Tab w p rv l) : Calls Try.prog 11 #[.pointer (some ⟨p.g, 0, none⟩)] w fun e w' => e = .returned (.int .i64 (l.length : Nat)) ∧ Below w.heap.size w w' := by
  obtain ⟨A, c, hrv, _, _⟩ := Kd.R_reads h.row
  subst hrv
  have cg : w.cell? ⟨p.g, 0, none⟩ = some (.slice A l.length c) := blk_cell h.cells 0
  clear h
  go_enter Try.func11, Try.ntmps11
  go_wp2
  go_ret
  exact ⟨rfl, Below.refl _ _⟩
set_option maxHeartbeats 8000000 in
set_option maxRecDepth 100000 in
theorem new_calls (w : World) : Calls Try.prog 5 #[] w fun e w' => e = .returned (.pointer (some ⟨w.heap.size, 0, none⟩)) ∧ Tab w' ⟨w.heap.size, w.heap.size⟩ (.slice none 0 0) [] ∧ Below w.heap.size w w' := by
  have HT := Aside0.mk (show Tab (w.alloc (.cells #[.slice none 0 0] 49)) ⟨w.heap.size, w.heap.size⟩ (.slice none 0 0) [] from
    ⟨heap_alloc_new w _, Kd.R_nil _ _ _ _ _, Nat.le_refl _, by decide, fun x hx => by cases hx⟩)
  have HB := Aside0.mk (below_alloc (Below.refl w.heap.size w) (.cells #[.slice none 0 0] 49))
  go_enter Try.func5, Try.ntmps5
  go_wp2
  go_ret
  exact ⟨rfl, HT.out, HB.out⟩
set_option maxHeartbeats 8000000 in
set_option maxRecDepth 100000 in
theorem who_nil (s : ByteArray) (w : World) : Calls Try.prog 10 #[.pointer none, .string s] w fun e w' => e = .returned (.tuple #[.slice none 0 0, .bool false]) ∧ Below w.heap.size w w' := by
  go_enter Try.func10, Try.ntmps10
  go_wp2_with (first | (go_at_call 18; fail))
  refine (find_nil s _).mono ?_
  rintro e w1 ⟨rfl, hb⟩
  have HB := Aside0.mk hb
  clear hb
  go_wp2
  go_ret2
  exact ⟨rfl, HB.out⟩
theorem isB_self (s : ByteArray) (x : S51) (h : x.f0 = s) : isB s x = true := by unfold isB; rw [h]; exact beq_self_eq_true _
theorem idx_x : idx ⟨#[120]⟩ [⟨⟨#[120]⟩, [0], howI true⟩] = ((0 : Nat) : Int) := idx_at (by decide) (isB_self _ _ rfl) (fun q hq => absurd hq (Nat.not_lt_zero q))
theorem agn_x : agn [⟨⟨#[120]⟩, [0], howI true⟩] 1 ⟨#[120]⟩ false = [0] := by
  unfold agn
  rw [idx_x]
  decide
theorem ne_x : (⟨#[120]⟩ : ByteArray).toList ≠ [] := by rw [toList_data]; decide
theorem held_x : held [⟨⟨#[120]⟩, [0], howI true⟩] 0 = 1 := by decide
set_option maxHeartbeats 2000000 in
set_option maxRecDepth 100000 in
theorem awake_calls (w : World) : Calls Try.prog 6 #[] w fun e w' => e = .returned (.bool true) ∧ Below w.heap.size w w' := by
  go_enter Try.func6, Try.ntmps6
  go_wp2_with (first | (go_at_call 5; fail))
  refine (new_calls w).mono ?_
  rintro e w1 ⟨rfl, ht, hb⟩
  have HT := Aside0.mk ht
  have HB := Aside0.mk hb
  clear ht hb
  go_wp2_with (first | (go_at_call 8; fail))
  refine (take_new (p := ⟨w.heap.size, w.heap.size⟩) HT.out 0 (by decide) (by decide) ⟨#[120]⟩ ne_x true (fun x hx => by cases hx) rfl (by decide) (by decide)).mono ?_
  rintro e w2 ⟨rfl, ⟨rv2, ht⟩, hb, _⟩
  rw [List.nil_append] at ht
  have HT2 := Aside0.mk ht
  have HB2 := Aside0.mk (HB.out.trans hb)
  clear ht hb HT HB
  go_wp2_with (first | (go_at_call 8; fail))
  refine (take_against (p := ⟨w.heap.size, w.heap.size⟩) HT2.out 1 (by decide) (by decide) ⟨#[120]⟩ ne_x false (fun x hx => by obtain rfl := List.mem_singleton.mp hx; exact .inr rfl) (by rw [agn_x]; decide)).mono ?_
  rw [agn_x]
  rintro e w3 ⟨v3, rfl, hR, hb⟩
  obtain ⟨A3, c3, rfl, hle, hC⟩ := Kd.R_reads hR
  have HT3 := Aside0.mk (HT2.out.below hb)
  have HB3 := Aside0.mk (HB2.out.trans (hb.mono HB2.out.size))
  obtain ⟨ad, hA, hcc⟩ := (Kd.reads_of_C (enc := Value.int .i64) (d := (0 : Int)) (h1 := fun _ => rfl) hC).2.2 (by decide)
  subst hA
  have h0 : w3.cell? (ad.add 0) = some (.int .i64 0) := hcc 0 (by decide)
  have h1 : w3.cell? ad = some (.int .i64 0) := h0
  clear hR hb hC hcc HT2 HB2 hle
  go_wp2_with (first | (go_at_call 12; fail))
  refine (held_calls (p := ⟨w.heap.size, w.heap.size⟩) HT3.out 0).mono ?_
  rw [held_x]
  rintro e w4 ⟨rfl, hb⟩
  have HB4 := Aside0.mk (HB3.out.trans (hb.mono HB3.out.size))
  clear hb h0 h1
  go_wp2
  go_ret
  exact ⟨rfl, HB4.out⟩
end Go.Proofs.Ytonbonailghjjaa.Lk
