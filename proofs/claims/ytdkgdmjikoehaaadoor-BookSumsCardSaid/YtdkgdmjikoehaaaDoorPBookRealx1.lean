-- Written by a program of this session's (the kit's print, with additions of my own). Not trusted: Lean checks it.
import Derived.Test.YtdkgdmjikoehaaaDoorPBookRealx0
namespace Go.Proofs.YtdkgdmjikoehaaaDoor.PBookReal
open Go.RowKit Go.Proofs.YtdkgdmjikoehaaaDoorW.PrintWords Go.Proofs.YtdkgdmjikoehaaaDoorW.PrintLast Go.Proofs.YtdkgdmjikoehaaaDoorW.PrintMore
attribute [local go_sem] max2_int min2_int max_two min_two max_three min_three max_four min_four   -- for this text's walks alone
set_option linter.unusedVariables false
set_option linter.unusedSimpArgs false

/-! ### sha_Sum: function 14 -/
def sha_Sum.f (a0 : ByteArray) : Option ByteArray := if a0.size ≤ 140737488351232 then some (Go.Proofs.YtdkgdmjikoehaaaDoor.Sha.dig a0) else none
theorem sha_Sum.calls (a0 : ByteArray) (r : ByteArray) (w : World) (hG_ : Go.Proofs.YtdkgdmjikoehaaaDoor.Sha.SL w) (h : sha_Sum.f a0 = some r) :
    Calls Tryd.prog 14 #[.string a0] w fun e w' => e = .returned (.string r) ∧ Below w.heap.size w w' := by
  unfold sha_Sum.f at h
  by_cases c : a0.size ≤ 140737488351232
  · rw [if_pos c] at h
    obtain rfl := Option.some.inj h
    exact Go.Proofs.YtdkgdmjikoehaaaDoor.Sha.sum_dig a0 c w hG_
  · rw [if_neg c] at h
    exact absurd h (by simp)

-- NOT PRINTED: function 7 (book_Book_Sum)

/-! ### lodestoneref01_Sum: function 8 -/
def lodestoneref01_Sum.f (a0 : ByteArray) : Option ByteArray := if a0.size ≤ 140737488351232 then some (Go.Proofs.YtdkgdmjikoehaaaDoor.Sha.dig a0) else none
theorem lodestoneref01_Sum.calls (a0 : ByteArray) (r : ByteArray) (w : World) (h : lodestoneref01_Sum.f a0 = some r) :
    Calls Tryd.prog 8 #[.string a0] w fun e w' => e = .returned (.string r) ∧ Below w.heap.size w w' := by
  unfold lodestoneref01_Sum.f at h
  by_cases c : a0.size ≤ 140737488351232
  · rw [if_pos c] at h
    obtain rfl := Option.some.inj h
    exact Go.Proofs.YtdkgdmjikoehaaaDoor.Sha.ref_dig a0 c w
  · rw [if_neg c] at h
    exact absurd h (by simp)

-- NOT PRINTED: function 9 (book_Book_Twins)

-- NOT PRINTED: function 6 (book_New)

-- NOT PRINTED: function 11 (book_Book_Len)

-- NOT PRINTED: function 10 (lodestonelaw06_awake)

-- NOT PRINTED: function 12 (book_Book_Full)

/-! ### book_Real: function 13 -/
def book_Real.f (a0 : ByteArray) (a1 : ByteArray) : Option (Bool) := if a0.toList = a1.toList then (some false) else ((sha_Sum.f a0).bind fun t101 => ((sha_Sum.f a1).bind fun t102 => (some (t101.toList == t102.toList))))
set_option maxHeartbeats 8000000 in
set_option maxRecDepth 100000 in
theorem book_Real.calls (a0 : ByteArray) (a1 : ByteArray) (r : Bool) (w : World) (hG_ : Go.Proofs.YtdkgdmjikoehaaaDoor.Sha.SL w) (h : book_Real.f a0 a1 = some r) :
    Calls Tryd.prog 13 #[.string a0, .string a1] w fun e w' => e = .returned (.bool r) ∧ Below w.heap.size w w' := by
  have HG_ := Aside0.mk hG_
  clear hG_
  have HB := Aside0.mk (Below.refl w.heap.size w)
  have H : (if a0.toList = a1.toList then (some false) else ((sha_Sum.f a0).bind fun t101 => ((sha_Sum.f a1).bind fun t102 => (some (t101.toList == t102.toList))))) = some r := h
  clear h
  by_cases c3 : a0.toList = a1.toList
  · rw [if_pos c3] at H
    have c3b0 : (a0.toList == a1.toList) = true := beq_iff_eq.mpr c3
    have c3b1 : (a0.toList != a1.toList) = false := bne_eq_false_iff_eq.mpr c3
    clear c3
    obtain rfl := Option.some.inj H
    go_enter Tryd.func13, Tryd.ntmps13
    go_wp2
    go_ret
    exact ⟨by first | rfl | (simp [errW_none, errW_some] <;> rfl) | (simp [*, errW_none, errW_some] <;> rfl), by repeat (first | (with_reducible first | exact HB.out | apply below_alloc | apply pw_below_drewN | apply below_drew1) | exact HB.out)⟩
  · rw [if_neg c3] at H
    have c3b0 : (a0.toList == a1.toList) = false := beq_eq_false_iff_ne.mpr c3
    have c3b1 : (a0.toList != a1.toList) = true := bne_iff_ne.mpr c3
    replace H := Option.bind_eq_some_iff.mp H
    obtain ⟨t101, A40, H⟩ := H
    replace H : ((sha_Sum.f a1).bind fun t102 => (some (t101.toList == t102.toList))) = some r := H
    have A4 := Aside0.mk A40
    clear A40
    replace H := Option.bind_eq_some_iff.mp H
    obtain ⟨t102, A50, H⟩ := H
    replace H : (some (t101.toList == t102.toList)) = some r := H
    have A5 := Aside0.mk A50
    clear A50
    obtain rfl := Option.some.inj H
    go_enter Tryd.func13, Tryd.ntmps13
    go_wp2_with (first | (go_at_call 14; (with_reducible refine (sha_Sum.calls a0 t101 _ ?side1 A4.out).mono ?_); (case side1 => exact Go.Proofs.YtdkgdmjikoehaaaDoor.Sha.SL.below HG_.out (by repeat (first | (with_reducible first | exact HB.out | apply below_alloc | apply pw_below_drewN | apply below_drew1) | exact HB.out))); rintro e w6 ⟨rfl, hb⟩; have n0_ := Aside0.mk (below_step (by repeat (first | (with_reducible first | exact HB.out | apply below_alloc | apply pw_below_drewN | apply below_drew1) | exact HB.out)) hb); clear HB; have HB := n0_; clear n0_; (try clear hb); (try clear hb2); (try clear hk); (try clear hi)) | (go_at_call 14; (with_reducible refine (sha_Sum.calls a1 t102 _ ?side1 A5.out).mono ?_); (case side1 => exact Go.Proofs.YtdkgdmjikoehaaaDoor.Sha.SL.below HG_.out (by repeat (first | (with_reducible first | exact HB.out | apply below_alloc | apply pw_below_drewN | apply below_drew1) | exact HB.out))); rintro e w7 ⟨rfl, hb⟩; have n0_ := Aside0.mk (below_step (by repeat (first | (with_reducible first | exact HB.out | apply below_alloc | apply pw_below_drewN | apply below_drew1) | exact HB.out)) hb); clear HB; have HB := n0_; clear n0_; (try clear hb); (try clear hb2); (try clear hk); (try clear hi)))
    go_ret
    exact ⟨by first | rfl | (simp [errW_none, errW_some] <;> rfl) | (simp [*, errW_none, errW_some] <;> rfl), by repeat (first | (with_reducible first | exact HB.out | apply below_alloc | apply pw_below_drewN | apply below_drew1) | exact HB.out)⟩

-- NOT PRINTED: function 5 (lodestonelaw06_BookReal)

end Go.Proofs.YtdkgdmjikoehaaaDoor.PBookReal
