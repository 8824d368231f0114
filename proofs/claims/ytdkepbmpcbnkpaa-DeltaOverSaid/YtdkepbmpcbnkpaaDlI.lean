/- awake: the last change counts, walked. -/
import Derived.Test.YtdkepbmpcbnkpaaDlH
namespace Go.Proofs.Ytdkepbmpcbnkpaa.Dl
open Go.RowKit Go.Proofs.YtdkepbmpcbnkpaaW.PrintWords Go.Proofs.YtdkepbmpcbnkpaaW.PrintLast Go.Proofs.YtdkepbmpcbnkpaaW.PrintMore Go.Proofs.Ytdkepbmpcbnkpaa.XB Go.Proofs.Ytdkepbmpcbnkpaa.PDeltaPlays
attribute [local go_sem] max2_int min2_int max_two min_two max_three min_three max_four min_four
set_option linter.unusedVariables false
set_option linter.unusedSimpArgs false
variable {w w' : World} {p : At} {rv : Value} {l : List S26}
theorem rises_nil : Rises [] := List.Pairwise.nil
theorem put_two : (putL (putL [] ⟨⟨#[97]⟩, ⟨#[49]⟩, false⟩) ⟨⟨#[97]⟩, ⟨#[50]⟩, false⟩).length = 1 := by
  have hne : (⟨#[97]⟩ : ByteArray).toList ≠ [] := by rw [toList_data]; decide
  have e1 : putL [] ⟨⟨#[97]⟩, ⟨#[49]⟩, false⟩ = [⟨⟨#[97]⟩, ⟨#[49]⟩, false⟩] := by
    unfold putL
    rw [if_neg hne, if_neg (fun h => Nat.not_lt_zero _ h.1)]
    rfl
  have h0 : atN [(⟨⟨#[97]⟩, ⟨#[49]⟩, false⟩ : S26)] ⟨#[97]⟩ = 0 := by
    unfold atN
    rw [List.countP_eq_zero]
    intro y hy hc
    rw [List.mem_singleton] at hy
    subst hy
    rw [lt_iff] at hc
    exact List.lt_irrefl _ hc
  rw [e1]
  unfold putL
  rw [if_neg hne, h0]
  split
  · rfl
  · rename_i c
    exact absurd ⟨by decide, rfl⟩ c
theorem get_two : getL (putL (putL [] ⟨⟨#[97]⟩, ⟨#[49]⟩, false⟩) ⟨⟨#[97]⟩, ⟨#[50]⟩, false⟩) ⟨#[97]⟩ = (⟨⟨#[97]⟩, ⟨#[50]⟩, false⟩, true) :=
  getL_put (putL_rises rises_nil _) ⟨⟨#[97]⟩, ⟨#[50]⟩, false⟩ (by rw [toList_data]; decide)
set_option maxHeartbeats 8000000 in
set_option maxRecDepth 100000 in
theorem awake_calls (w : World) : Calls Try.prog 12 #[] w fun e w' => e = .returned (.bool true) ∧ Below w.heap.size w w' := by
  go_enter Try.func12, Try.ntmps12
  go_wp2_with (first | (go_at_call 6; fail))
  refine (new_calls w).mono ?_
  rintro e w1 ⟨rfl, ht, hb⟩
  have HT := Aside0.mk ht
  have HB := Aside0.mk hb
  clear ht hb
  go_wp2_with (first | (go_at_call 8; fail))
  refine (put_calls (p := ⟨w.heap.size, w.heap.size⟩) HT.out rises_nil ⟨⟨#[97]⟩, ⟨#[49]⟩, false⟩ (by decide)).mono ?_
  rintro e w2 ⟨rfl, ⟨rv2, ht⟩, hb, _⟩
  have HT2 := Aside0.mk ht
  have HB2 := Aside0.mk (HB.out.trans hb)
  clear ht hb HT HB
  go_wp2_with (first | (go_at_call 8; fail))
  refine (put_calls (p := ⟨w.heap.size, w.heap.size⟩) HT2.out (putL_rises rises_nil _) ⟨⟨#[97]⟩, ⟨#[50]⟩, false⟩ (by have := putL_length [] ⟨⟨#[97]⟩, ⟨#[49]⟩, false⟩; simp at this; omega)).mono ?_
  rintro e w3 ⟨rfl, ⟨rv3, ht⟩, hb, _⟩
  have HT3 := Aside0.mk ht
  have HB3 := Aside0.mk (HB2.out.trans hb)
  clear ht hb HT2 HB2
  go_wp2_with (first | (go_at_call 10; fail))
  refine (get_calls (p := ⟨w.heap.size, w.heap.size⟩) HT3.out (putL_rises (putL_rises rises_nil _) _) ⟨#[97]⟩).mono ?_
  rw [get_two]
  rintro e w4 ⟨rfl, hb⟩
  have HT4 := Aside0.mk (HT3.out.below hb)
  have HB4 := Aside0.mk (HB3.out.trans (hb.mono HB3.out.size))
  clear hb HT3 HB3
  have s2 : ((⟨#[50]⟩ : ByteArray).toList == (⟨#[50]⟩ : ByteArray).toList) = true := beq_self_eq_true _
  have hnb := heap_alloc_new w4 (.cells #[.string ⟨#[97]⟩, .string ⟨#[50]⟩, .bool false] 26)
  have z1 : (w4.alloc (.cells #[.string ⟨#[97]⟩, .string ⟨#[50]⟩, .bool false] 26)).cell? ⟨w4.heap.size, 1, none⟩ = some (.string ⟨#[50]⟩) := blk_cell hnb 1
  clear hnb
  go_wp2_with (first | (go_at_call 11; fail))
  refine (len_calls (p := ⟨w.heap.size, w.heap.size⟩) (HT4.out.below (below_alloc (Below.refl _ _) _))).mono ?_
  rw [put_two]
  rintro e w5 ⟨rfl, hb⟩
  have HB5 := Aside0.mk (below_step (below_alloc HB4.out _) hb)
  clear hb
  go_wp2
  go_ret
  exact ⟨rfl, HB5.out⟩
end Go.Proofs.Ytdkepbmpcbnkpaa.Dl
