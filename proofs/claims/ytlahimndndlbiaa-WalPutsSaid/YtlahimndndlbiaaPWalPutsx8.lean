-- Written by a program of this session's (the kit's print, with additions of my own). Not trusted: Lean checks it.
import Derived.Test.YtlahimndndlbiaaPWalPutsx0
import Derived.Test.YtlahimndndlbiaaPWalPutsx2
import Derived.Test.YtlahimndndlbiaaPWalPutsx3
import Derived.Test.YtlahimndndlbiaaPWalPutsx4
import Derived.Test.YtlahimndndlbiaaPWalPutsx5
import Derived.Test.YtlahimndndlbiaaPWalPutsx7
namespace Go.Proofs.Ytlahimndndlbiaa.PWalPuts
open Go.RowKit Go.Proofs.YtlahimndndlbiaaW.PrintWords Go.Proofs.YtlahimndndlbiaaW.PrintLast Go.Proofs.YtlahimndndlbiaaW.PrintMore
attribute [local go_sem] max2_int min2_int max_two min_two max_three min_three max_four min_four   -- for this text's walks alone
set_option linter.unusedVariables false
set_option linter.unusedSimpArgs false

/-! ### lodestonelaw15_WalPuts: function 3 -/
def lodestonelaw15_WalPuts.f (k : Nat) (l0 : List (S33)) (a1 : Int) : Option (Bool) := (lodestonelaw15_cut.f k l0 a1).bind fun t242 => ((wal_Put.f k t242).bind fun t245 => ((wal_Get.f k t245).bind fun bt246 => ((lodestonelaw15_awake.f k).bind fun t250 => (if t250 = true then ((lodestoneref15_Put.f k t242).bind fun t251 => (if t245.toList = t251.toList then ((wal_May.f t242).bind fun t252 => ((lodestoneref15_May.f k t242).bind fun t253 => (if (t252 != t253) = true then (some false) else (if t245.toList = ([] : List UInt8) then (if bt246.2 = 2 then (some ((bt246.1.length : Int) == 0)) else (some false)) else (if bt246.2 = 0 then ((lodestonelaw15_same.f k t242 bt246.1).bind fun t254 => (if t254 = true then (some true) else (some false))) else (some false)))))) else (some false))) else (some false)))))
theorem lodestonelaw15_WalPuts.mono : ∀ a0 a1 k, LeO (lodestonelaw15_WalPuts.f k a0 a1) (lodestonelaw15_WalPuts.f (k + 1) a0 a1) := by
  intro a0 a1 k
  unfold lodestonelaw15_WalPuts.f
  repeat' first
      | (with_reducible exact lodestonelaw15_awake.mono _)
      | (with_reducible exact lodestonelaw15_cut.mono _ _ _)
      | (with_reducible exact lodestonelaw15_same.mono _ _ _)
      | (with_reducible exact lodestoneref15_May.mono _ _)
      | (with_reducible exact lodestoneref15_Put.mono _ _)
      | (with_reducible exact wal_Get.mono _ _)
      | (with_reducible exact wal_Put.mono _ _)
      | (with_reducible exact LeO.refl _)
      | (with_reducible exact LeO.none _)
      | (with_reducible refine LeO.ite ?_ ?_)
      | (with_reducible refine LeO.bind ?_ (fun _ => ?_))
      | exact lodestonelaw15_awake.mono _
      | exact lodestonelaw15_cut.mono _ _ _
      | exact lodestonelaw15_same.mono _ _ _
      | exact lodestoneref15_May.mono _ _
      | exact lodestoneref15_Put.mono _ _
      | exact wal_Get.mono _ _
      | exact wal_Put.mono _ _
      | exact LeO.none _
      | refine LeO.ite ?_ ?_
      | refine LeO.bind ?_ (fun _ => ?_)
set_option maxHeartbeats 8000000 in
set_option maxRecDepth 100000 in
theorem lodestonelaw15_WalPuts.calls (k : Nat) (A0 : Option Addr) (c0 : Nat) (l0 : List (S33)) (a1 : Int) (r : Bool) (w : World) (hr0 : Kd.C k33 w A0 l0.length l0) (hc0 : l0.length ≤ c0) (h : lodestonelaw15_WalPuts.f k l0 a1 = some r) (hr : r = true) :
    Calls Try.prog 3 #[.slice A0 l0.length c0, .int .i64 a1] w fun e w' => e = .returned (.bool r) ∧ Below w.heap.size w w' := by
  have HR_ := Aside0.mk hr
  clear hr
  have HR0 := Aside0.mk hr0
  have HC0 := Aside0.mk hc0
  clear hr0 hc0
  have HB := Aside0.mk (Below.refl w.heap.size w)
  have H : ((lodestonelaw15_cut.f k l0 a1).bind fun t242 => ((wal_Put.f k t242).bind fun t245 => ((wal_Get.f k t245).bind fun bt246 => ((lodestonelaw15_awake.f k).bind fun t250 => (if t250 = true then ((lodestoneref15_Put.f k t242).bind fun t251 => (if t245.toList = t251.toList then ((wal_May.f t242).bind fun t252 => ((lodestoneref15_May.f k t242).bind fun t253 => (if (t252 != t253) = true then (some false) else (if t245.toList = ([] : List UInt8) then (if bt246.2 = 2 then (some ((bt246.1.length : Int) == 0)) else (some false)) else (if bt246.2 = 0 then ((lodestonelaw15_same.f k t242 bt246.1).bind fun t254 => (if t254 = true then (some true) else (some false))) else (some false)))))) else (some false))) else (some false)))))) = some r := h
  clear h
  replace H := Option.bind_eq_some_iff.mp H
  obtain ⟨t242, A30, H⟩ := H
  replace H : ((wal_Put.f k t242).bind fun t245 => ((wal_Get.f k t245).bind fun bt246 => ((lodestonelaw15_awake.f k).bind fun t250 => (if t250 = true then ((lodestoneref15_Put.f k t242).bind fun t251 => (if t245.toList = t251.toList then ((wal_May.f t242).bind fun t252 => ((lodestoneref15_May.f k t242).bind fun t253 => (if (t252 != t253) = true then (some false) else (if t245.toList = ([] : List UInt8) then (if bt246.2 = 2 then (some ((bt246.1.length : Int) == 0)) else (some false)) else (if bt246.2 = 0 then ((lodestonelaw15_same.f k t242 bt246.1).bind fun t254 => (if t254 = true then (some true) else (some false))) else (some false)))))) else (some false))) else (some false))))) = some r := H
  have A3 := Aside0.mk A30
  clear A30
  replace H := Option.bind_eq_some_iff.mp H
  obtain ⟨t245, A40, H⟩ := H
  replace H : ((wal_Get.f k t245).bind fun bt246 => ((lodestonelaw15_awake.f k).bind fun t250 => (if t250 = true then ((lodestoneref15_Put.f k t242).bind fun t251 => (if t245.toList = t251.toList then ((wal_May.f t242).bind fun t252 => ((lodestoneref15_May.f k t242).bind fun t253 => (if (t252 != t253) = true then (some false) else (if t245.toList = ([] : List UInt8) then (if bt246.2 = 2 then (some ((bt246.1.length : Int) == 0)) else (some false)) else (if bt246.2 = 0 then ((lodestonelaw15_same.f k t242 bt246.1).bind fun t254 => (if t254 = true then (some true) else (some false))) else (some false)))))) else (some false))) else (some false)))) = some r := H
  have A4 := Aside0.mk A40
  clear A40
  replace H := Option.bind_eq_some_iff.mp H
  obtain ⟨⟨t246, t247⟩, A50, H⟩ := H
  replace H : ((lodestonelaw15_awake.f k).bind fun t250 => (if t250 = true then ((lodestoneref15_Put.f k t242).bind fun t251 => (if t245.toList = t251.toList then ((wal_May.f t242).bind fun t252 => ((lodestoneref15_May.f k t242).bind fun t253 => (if (t252 != t253) = true then (some false) else (if t245.toList = ([] : List UInt8) then (if t247 = 2 then (some ((t246.length : Int) == 0)) else (some false)) else (if t247 = 0 then ((lodestonelaw15_same.f k t242 t246).bind fun t254 => (if t254 = true then (some true) else (some false))) else (some false)))))) else (some false))) else (some false))) = some r := H
  have A5 := Aside0.mk A50
  clear A50
  replace H := Option.bind_eq_some_iff.mp H
  obtain ⟨t250, A60, H⟩ := H
  replace H : (if t250 = true then ((lodestoneref15_Put.f k t242).bind fun t251 => (if t245.toList = t251.toList then ((wal_May.f t242).bind fun t252 => ((lodestoneref15_May.f k t242).bind fun t253 => (if (t252 != t253) = true then (some false) else (if t245.toList = ([] : List UInt8) then (if t247 = 2 then (some ((t246.length : Int) == 0)) else (some false)) else (if t247 = 0 then ((lodestonelaw15_same.f k t242 t246).bind fun t254 => (if t254 = true then (some true) else (some false))) else (some false)))))) else (some false))) else (some false)) = some r := H
  have A6 := Aside0.mk A60
  clear A60
  by_cases c7 : t250 = true
  · subst c7
    have H1 : ((lodestoneref15_Put.f k t242).bind fun t251 => (if t245.toList = t251.toList then ((wal_May.f t242).bind fun t252 => ((lodestoneref15_May.f k t242).bind fun t253 => (if (t252 != t253) = true then (some false) else (if t245.toList = ([] : List UInt8) then (if t247 = 2 then (some ((t246.length : Int) == 0)) else (some false)) else (if t247 = 0 then ((lodestonelaw15_same.f k t242 t246).bind fun t254 => (if t254 = true then (some true) else (some false))) else (some false)))))) else (some false))) = some r := by rw [if_pos rfl] at H; exact H
    clear H
    have H := H1
    clear H1
    replace H := Option.bind_eq_some_iff.mp H
    obtain ⟨t251, A80, H⟩ := H
    replace H : (if t245.toList = t251.toList then ((wal_May.f t242).bind fun t252 => ((lodestoneref15_May.f k t242).bind fun t253 => (if (t252 != t253) = true then (some false) else (if t245.toList = ([] : List UInt8) then (if t247 = 2 then (some ((t246.length : Int) == 0)) else (some false)) else (if t247 = 0 then ((lodestonelaw15_same.f k t242 t246).bind fun t254 => (if t254 = true then (some true) else (some false))) else (some false)))))) else (some false)) = some r := H
    have A8 := Aside0.mk A80
    clear A80
    by_cases c9 : t245.toList = t251.toList
    · rw [if_pos c9] at H
      have c9b0 : (t245.toList == t251.toList) = true := beq_iff_eq.mpr c9
      have c9b1 : (t245.toList != t251.toList) = false := bne_eq_false_iff_eq.mpr c9
      clear c9
      replace H := Option.bind_eq_some_iff.mp H
      obtain ⟨t252, A100, H⟩ := H
      replace H : ((lodestoneref15_May.f k t242).bind fun t253 => (if (t252 != t253) = true then (some false) else (if t245.toList = ([] : List UInt8) then (if t247 = 2 then (some ((t246.length : Int) == 0)) else (some false)) else (if t247 = 0 then ((lodestonelaw15_same.f k t242 t246).bind fun t254 => (if t254 = true then (some true) else (some false))) else (some false))))) = some r := H
      have A10 := Aside0.mk A100
      clear A100
      replace H := Option.bind_eq_some_iff.mp H
      obtain ⟨t253, A110, H⟩ := H
      replace H : (if (t252 != t253) = true then (some false) else (if t245.toList = ([] : List UInt8) then (if t247 = 2 then (some ((t246.length : Int) == 0)) else (some false)) else (if t247 = 0 then ((lodestonelaw15_same.f k t242 t246).bind fun t254 => (if t254 = true then (some true) else (some false))) else (some false)))) = some r := H
      have A11 := Aside0.mk A110
      clear A110
      by_cases c12 : (t252 != t253) = true
      · rw [if_pos c12] at H
        have c12b0 : (t252 != t253) = true := c12
        (try (have c12b1 : decide (t252 = t253) = false := by simpa using c12))
        (try (have c12b2 : (t252 == t253) = false := by simpa using c12))
        (try (have c12b3 : ¬ (t252 = t253) := by simpa using c12))
        clear c12
        exact absurd (H.trans (congrArg some HR_.out)) (by simp)
      · rw [if_neg c12] at H
        have c12b0 : (t252 != t253) = false := by simpa using c12
        (try (have c12b1 : decide (t252 = t253) = true := by simpa using c12))
        (try (have c12b2 : (t252 == t253) = true := by simpa using c12))
        clear c12
        by_cases c21 : t245.toList = ([] : List UInt8)
        · rw [if_pos c21] at H
          have c21b0 : (t245.toList == ([] : List UInt8)) = true := beq_iff_eq.mpr c21
          have c21b1 : (t245.toList != ([] : List UInt8)) = false := bne_eq_false_iff_eq.mpr c21
          clear c21
          by_cases c22 : t247 = 2
          · rw [if_pos c22] at H
            have c22b0 : (t247 == 2) = true := beq_iff_eq.mpr c22
            have c22b1 : (t247 != 2) = false := bne_eq_false_iff_eq.mpr c22
            clear c22
            obtain rfl := Option.some.inj H
            go_enter Try.func3, Try.ntmps3
            go_wp2_with (first | ((with_reducible refine gate_callee (f := 7) rfl ?_); refine goesL_ (some 11) rfl rfl Try.func7 (by kernel_rfl) rfl #[.slice A0 l0.length c0, .int .i64 a1] rfl (by (try simp only [List.map_toArray, List.map_cons, List.map_nil]); first | done | rfl | (simp only [List.length_drop, List.length_take]; rfl)) ?_; (with_reducible refine (lodestonelaw15_cut.calls k _ _ l0 a1 t242 _ ?side1 ?side2 A3.out).mono ?_); (case side1 => repeat (first | exact HR0.out | (with_reducible refine Kd.C_alloc ?_ _) | (with_reducible refine Kd.C_drewN ?_ _) | (with_reducible refine Kd.C_drew ?_))); (case side2 => exact HC0.out); rintro e w23 ⟨v243, rfl, ho0, hb⟩; refine ⟨_, rfl, ?_⟩; have n0_ := Aside0.mk (Kd.R_lower ho0 (below_size (by repeat (first | (with_reducible first | exact HB.out | apply below_alloc | apply pw_below_drewN | apply below_drew1) | exact HB.out)))); have n1_ := Aside0.mk (below_step (by repeat (first | (with_reducible first | exact HB.out | apply below_alloc | apply pw_below_drewN | apply below_drew1) | exact HB.out)) hb); clear HB; have HO244 := n0_; have HB := n1_; clear n0_ n1_; (try clear hb); (try clear hb2); (try clear hk); (try clear hi); (try clear ho0); obtain ⟨Ao24, co24, eo24⟩ := Kd.R_slice HO244.out; subst eo24) | ((with_reducible refine gate_callee (f := 8) rfl ?_); refine goesL_ (some 13) rfl rfl Try.func8 (by kernel_rfl) rfl #[.slice Ao24 t242.length co24] rfl (by (try simp only [List.map_toArray, List.map_cons, List.map_nil]); first | done | rfl | (simp only [List.length_drop, List.length_take]; rfl)) ?_; (with_reducible refine (wal_Put.calls k _ _ t242 t245 _ ?side1 ?side2 A4.out).mono ?_); (case side1 => repeat (first | exact (Kd.R_reads' HO244.out).2.2 | (with_reducible refine Kd.C_alloc ?_ _) | (with_reducible refine Kd.C_drewN ?_ _) | (with_reducible refine Kd.C_drew ?_))); (case side2 => exact (Kd.R_reads' HO244.out).2.1); rintro e w25 ⟨rfl, hb⟩; refine ⟨_, rfl, ?_⟩; have n0_ := Aside0.mk (Kd.R_below (by (with_reducible repeat (first | apply Kd.R_alloc | apply Kd.R_drewN | apply Kd.R_drew)); exact HO244.out) hb); have n1_ := Aside0.mk (below_step (by repeat (first | (with_reducible first | exact HB.out | apply below_alloc | apply pw_below_drewN | apply below_drew1) | exact HB.out)) hb); clear HO244; clear HB; have HO244 := n0_; have HB := n1_; clear n0_ n1_; (try clear hb); (try clear hb2); (try clear hk); (try clear hi)) | ((with_reducible refine gate_callee (f := 9) rfl ?_); refine goesL_ (some 16) rfl rfl Try.func9 (by kernel_rfl) rfl #[.string t245] rfl (by (try simp only [List.map_toArray, List.map_cons, List.map_nil]); first | done | rfl | (simp only [List.length_drop, List.length_take]; rfl)) ?_; (with_reducible refine (wal_Get.calls k t245 t246 t247 _ A5.out).mono ?_); rintro e w26 ⟨v248, rfl, ho0, hb⟩; refine ⟨_, rfl, ?_⟩; have n0_ := Aside0.mk (Kd.R_elder' (by (with_reducible repeat (first | apply Kd.R_alloc | apply Kd.R_drewN | apply Kd.R_drew)); exact HO244.out) (Kd.R_base ho0) hb); have n1_ := Aside0.mk (Kd.R_lower (Kd.R_new' ho0 (Kd.R_lt (by (with_reducible repeat (first | apply Kd.R_alloc | apply Kd.R_drewN | apply Kd.R_drew)); exact HO244.out))) (below_size (by repeat (first | (with_reducible first | exact HB.out | apply below_alloc | apply pw_below_drewN | apply below_drew1) | exact HB.out)))); have n2_ := Aside0.mk (below_step (by repeat (first | (with_reducible first | exact HB.out | apply below_alloc | apply pw_below_drewN | apply below_drew1) | exact HB.out)) hb); clear HO244; clear HB; have HO244 := n0_; have HO249 := n1_; have HB := n2_; clear n0_ n1_ n2_; (try clear hb); (try clear hb2); (try clear hk); (try clear hi); (try clear ho0)) | ((with_reducible refine gate_callee (f := 10) rfl ?_); refine goesL_ (some 19) rfl rfl Try.func10 (by kernel_rfl) rfl #[] rfl (by (try simp only [List.map_toArray, List.map_cons, List.map_nil]); first | done | rfl | (simp only [List.length_drop, List.length_take]; rfl)) ?_; (with_reducible refine (lodestonelaw15_awake.calls k  true _ A6.out).mono ?_); rintro e w27 ⟨rfl, hb⟩; refine ⟨_, rfl, ?_⟩; have n0_ := Aside0.mk (Kd.R_below (by (with_reducible repeat (first | apply Kd.R_alloc | apply Kd.R_drewN | apply Kd.R_drew)); exact HO244.out) hb); have n1_ := Aside0.mk (Kd.R_below (by (with_reducible repeat (first | apply Kd.R_alloc | apply Kd.R_drewN | apply Kd.R_drew)); exact HO249.out) hb); have n2_ := Aside0.mk (below_step (by repeat (first | (with_reducible first | exact HB.out | apply below_alloc | apply pw_below_drewN | apply below_drew1) | exact HB.out)) hb); clear HO244; clear HO249; clear HB; have HO244 := n0_; have HO249 := n1_; have HB := n2_; clear n0_ n1_ n2_; (try clear hb); (try clear hb2); (try clear hk); (try clear hi)) | (go_at_call 11; (with_reducible refine (lodestoneref15_Put.calls k _ _ t242 t251 _ ?side1 ?side2 A8.out).mono ?_); (case side1 => repeat (first | exact (Kd.R_reads' HO244.out).2.2 | (with_reducible refine Kd.C_alloc ?_ _) | (with_reducible refine Kd.C_drewN ?_ _) | (with_reducible refine Kd.C_drew ?_))); (case side2 => exact (Kd.R_reads' HO244.out).2.1); rintro e w28 ⟨rfl, hb⟩; have n0_ := Aside0.mk (Kd.R_below (by (with_reducible repeat (first | apply Kd.R_alloc | apply Kd.R_drewN | apply Kd.R_drew)); exact HO244.out) hb); have n1_ := Aside0.mk (Kd.R_below (by (with_reducible repeat (first | apply Kd.R_alloc | apply Kd.R_drewN | apply Kd.R_drew)); exact HO249.out) hb); have n2_ := Aside0.mk (below_step (by repeat (first | (with_reducible first | exact HB.out | apply below_alloc | apply pw_below_drewN | apply below_drew1) | exact HB.out)) hb); clear HO244; clear HO249; clear HB; have HO244 := n0_; have HO249 := n1_; have HB := n2_; clear n0_ n1_ n2_; (try clear hb); (try clear hb2); (try clear hk); (try clear hi)) | (go_at_call 12; (with_reducible refine (wal_May.calls _ _ t242 t252 _ ?side1 ?side2 A10.out).mono ?_); (case side1 => repeat (first | exact (Kd.R_reads' HO244.out).2.2 | (with_reducible refine Kd.C_alloc ?_ _) | (with_reducible refine Kd.C_drewN ?_ _) | (with_reducible refine Kd.C_drew ?_))); (case side2 => exact (Kd.R_reads' HO244.out).2.1); rintro e w29 ⟨rfl, hb⟩; have n0_ := Aside0.mk (Kd.R_below (by (with_reducible repeat (first | apply Kd.R_alloc | apply Kd.R_drewN | apply Kd.R_drew)); exact HO244.out) hb); have n1_ := Aside0.mk (Kd.R_below (by (with_reducible repeat (first | apply Kd.R_alloc | apply Kd.R_drewN | apply Kd.R_drew)); exact HO249.out) hb); have n2_ := Aside0.mk (below_step (by repeat (first | (with_reducible first | exact HB.out | apply below_alloc | apply pw_below_drewN | apply below_drew1) | exact HB.out)) hb); clear HO244; clear HO249; clear HB; have HO244 := n0_; have HO249 := n1_; have HB := n2_; clear n0_ n1_ n2_; (try clear hb); (try clear hb2); (try clear hk); (try clear hi)) | (go_at_call 13; (with_reducible refine (lodestoneref15_May.calls k _ _ t242 t253 _ ?side1 ?side2 A11.out).mono ?_); (case side1 => repeat (first | exact (Kd.R_reads' HO244.out).2.2 | (with_reducible refine Kd.C_alloc ?_ _) | (with_reducible refine Kd.C_drewN ?_ _) | (with_reducible refine Kd.C_drew ?_))); (case side2 => exact (Kd.R_reads' HO244.out).2.1); rintro e w30 ⟨rfl, hb⟩; have n0_ := Aside0.mk (Kd.R_below (by (with_reducible repeat (first | apply Kd.R_alloc | apply Kd.R_drewN | apply Kd.R_drew)); exact HO244.out) hb); have n1_ := Aside0.mk (Kd.R_below (by (with_reducible repeat (first | apply Kd.R_alloc | apply Kd.R_drewN | apply Kd.R_drew)); exact HO249.out) hb); have n2_ := Aside0.mk (below_step (by repeat (first | (with_reducible first | exact HB.out | apply below_alloc | apply pw_below_drewN | apply below_drew1) | exact HB.out)) hb); clear HO244; clear HO249; clear HB; have HO244 := n0_; have HO249 := n1_; have HB := n2_; clear n0_ n1_ n2_; (try clear hb); (try clear hb2); (try clear hk); (try clear hi); obtain ⟨Ao31, co31, eo31⟩ := Kd.R_slice HO249.out; subst eo31))
            go_ret
            exact ⟨by first | rfl | (simp [errW_none, errW_some] <;> rfl) | (simp [*, errW_none, errW_some] <;> rfl), by repeat (first | (with_reducible first | exact HB.out | apply below_alloc | apply pw_below_drewN | apply below_drew1) | exact HB.out)⟩
          · rw [if_neg c22] at H
            have c22b0 : (t247 == 2) = false := beq_eq_false_iff_ne.mpr c22
            have c22b1 : (t247 != 2) = true := bne_iff_ne.mpr c22
            exact absurd (H.trans (congrArg some HR_.out)) (by simp)
        · rw [if_neg c21] at H
          have c21b0 : (t245.toList == ([] : List UInt8)) = false := beq_eq_false_iff_ne.mpr c21
          have c21b1 : (t245.toList != ([] : List UInt8)) = true := bne_iff_ne.mpr c21
          by_cases c40 : t247 = 0
          · rw [if_pos c40] at H
            have c40b0 : (t247 == 0) = true := beq_iff_eq.mpr c40
            have c40b1 : (t247 != 0) = false := bne_eq_false_iff_eq.mpr c40
            clear c40
            replace H := Option.bind_eq_some_iff.mp H
            obtain ⟨t254, A410, H⟩ := H
            replace H : (if t254 = true then (some true) else (some false)) = some r := H
            have A41 := Aside0.mk A410
            clear A410
            by_cases c42 : t254 = true
            · subst c42
              have H1 : (some true) = some r := by rw [if_pos rfl] at H; exact H
              clear H
              have H := H1
              clear H1
              obtain rfl := Option.some.inj H
              go_enter Try.func3, Try.ntmps3
              go_wp2_with (first | ((with_reducible refine gate_callee (f := 7) rfl ?_); refine goesL_ (some 11) rfl rfl Try.func7 (by kernel_rfl) rfl #[.slice A0 l0.length c0, .int .i64 a1] rfl (by (try simp only [List.map_toArray, List.map_cons, List.map_nil]); first | done | rfl | (simp only [List.length_drop, List.length_take]; rfl)) ?_; (with_reducible refine (lodestonelaw15_cut.calls k _ _ l0 a1 t242 _ ?side1 ?side2 A3.out).mono ?_); (case side1 => repeat (first | exact HR0.out | (with_reducible refine Kd.C_alloc ?_ _) | (with_reducible refine Kd.C_drewN ?_ _) | (with_reducible refine Kd.C_drew ?_))); (case side2 => exact HC0.out); rintro e w43 ⟨v243, rfl, ho0, hb⟩; refine ⟨_, rfl, ?_⟩; have n0_ := Aside0.mk (Kd.R_lower ho0 (below_size (by repeat (first | (with_reducible first | exact HB.out | apply below_alloc | apply pw_below_drewN | apply below_drew1) | exact HB.out)))); have n1_ := Aside0.mk (below_step (by repeat (first | (with_reducible first | exact HB.out | apply below_alloc | apply pw_below_drewN | apply below_drew1) | exact HB.out)) hb); clear HB; have HO244 := n0_; have HB := n1_; clear n0_ n1_; (try clear hb); (try clear hb2); (try clear hk); (try clear hi); (try clear ho0); obtain ⟨Ao44, co44, eo44⟩ := Kd.R_slice HO244.out; subst eo44) | ((with_reducible refine gate_callee (f := 8) rfl ?_); refine goesL_ (some 13) rfl rfl Try.func8 (by kernel_rfl) rfl #[.slice Ao44 t242.length co44] rfl (by (try simp only [List.map_toArray, List.map_cons, List.map_nil]); first | done | rfl | (simp only [List.length_drop, List.length_take]; rfl)) ?_; (with_reducible refine (wal_Put.calls k _ _ t242 t245 _ ?side1 ?side2 A4.out).mono ?_); (case side1 => repeat (first | exact (Kd.R_reads' HO244.out).2.2 | (with_reducible refine Kd.C_alloc ?_ _) | (with_reducible refine Kd.C_drewN ?_ _) | (with_reducible refine Kd.C_drew ?_))); (case side2 => exact (Kd.R_reads' HO244.out).2.1); rintro e w45 ⟨rfl, hb⟩; refine ⟨_, rfl, ?_⟩; have n0_ := Aside0.mk (Kd.R_below (by (with_reducible repeat (first | apply Kd.R_alloc | apply Kd.R_drewN | apply Kd.R_drew)); exact HO244.out) hb); have n1_ := Aside0.mk (below_step (by repeat (first | (with_reducible first | exact HB.out | apply below_alloc | apply pw_below_drewN | apply below_drew1) | exact HB.out)) hb); clear HO244; clear HB; have HO244 := n0_; have HB := n1_; clear n0_ n1_; (try clear hb); (try clear hb2); (try clear hk); (try clear hi)) | ((with_reducible refine gate_callee (f := 9) rfl ?_); refine goesL_ (some 16) rfl rfl Try.func9 (by kernel_rfl) rfl #[.string t245] rfl (by (try simp only [List.map_toArray, List.map_cons, List.map_nil]); first | done | rfl | (simp only [List.length_drop, List.length_take]; rfl)) ?_; (with_reducible refine (wal_Get.calls k t245 t246 t247 _ A5.out).mono ?_); rintro e w46 ⟨v248, rfl, ho0, hb⟩; refine ⟨_, rfl, ?_⟩; have n0_ := Aside0.mk (Kd.R_elder' (by (with_reducible repeat (first | apply Kd.R_alloc | apply Kd.R_drewN | apply Kd.R_drew)); exact HO244.out) (Kd.R_base ho0) hb); have n1_ := Aside0.mk (Kd.R_lower (Kd.R_new' ho0 (Kd.R_lt (by (with_reducible repeat (first | apply Kd.R_alloc | apply Kd.R_drewN | apply Kd.R_drew)); exact HO244.out))) (below_size (by repeat (first | (with_reducible first | exact HB.out | apply below_alloc | apply pw_below_drewN | apply below_drew1) | exact HB.out)))); have n2_ := Aside0.mk (below_step (by repeat (first | (with_reducible first | exact HB.out | apply below_alloc | apply pw_below_drewN | apply below_drew1) | exact HB.out)) hb); clear HO244; clear HB; have HO244 := n0_; have HO249 := n1_; have HB := n2_; clear n0_ n1_ n2_; (try clear hb); (try clear hb2); (try clear hk); (try clear hi); (try clear ho0)) | ((with_reducible refine gate_callee (f := 10) rfl ?_); refine goesL_ (some 19) rfl rfl Try.func10 (by kernel_rfl) rfl #[] rfl (by (try simp only [List.map_toArray, List.map_cons, List.map_nil]); first | done | rfl | (simp only [List.length_drop, List.length_take]; rfl)) ?_; (with_reducible refine (lodestonelaw15_awake.calls k  true _ A6.out).mono ?_); rintro e w47 ⟨rfl, hb⟩; refine ⟨_, rfl, ?_⟩; have n0_ := Aside0.mk (Kd.R_below (by (with_reducible repeat (first | apply Kd.R_alloc | apply Kd.R_drewN | apply Kd.R_drew)); exact HO244.out) hb); have n1_ := Aside0.mk (Kd.R_below (by (with_reducible repeat (first | apply Kd.R_alloc | apply Kd.R_drewN | apply Kd.R_drew)); exact HO249.out) hb); have n2_ := Aside0.mk (below_step (by repeat (first | (with_reducible first | exact HB.out | apply below_alloc | apply pw_below_drewN | apply below_drew1) | exact HB.out)) hb); clear HO244; clear HO249; clear HB; have HO244 := n0_; have HO249 := n1_; have HB := n2_; clear n0_ n1_ n2_; (try clear hb); (try clear hb2); (try clear hk); (try clear hi)) | (go_at_call 11; (with_reducible refine (lodestoneref15_Put.calls k _ _ t242 t251 _ ?side1 ?side2 A8.out).mono ?_); (case side1 => repeat (first | exact (Kd.R_reads' HO244.out).2.2 | (with_reducible refine Kd.C_alloc ?_ _) | (with_reducible refine Kd.C_drewN ?_ _) | (with_reducible refine Kd.C_drew ?_))); (case side2 => exact (Kd.R_reads' HO244.out).2.1); rintro e w48 ⟨rfl, hb⟩; have n0_ := Aside0.mk (Kd.R_below (by (with_reducible repeat (first | apply Kd.R_alloc | apply Kd.R_drewN | apply Kd.R_drew)); exact HO244.out) hb); have n1_ := Aside0.mk (Kd.R_below (by (with_reducible repeat (first | apply Kd.R_alloc | apply Kd.R_drewN | apply Kd.R_drew)); exact HO249.out) hb); have n2_ := Aside0.mk (below_step (by repeat (first | (with_reducible first | exact HB.out | apply below_alloc | apply pw_below_drewN | apply below_drew1) | exact HB.out)) hb); clear HO244; clear HO249; clear HB; have HO244 := n0_; have HO249 := n1_; have HB := n2_; clear n0_ n1_ n2_; (try clear hb); (try clear hb2); (try clear hk); (try clear hi)) | (go_at_call 12; (with_reducible refine (wal_May.calls _ _ t242 t252 _ ?side1 ?side2 A10.out).mono ?_); (case side1 => repeat (first | exact (Kd.R_reads' HO244.out).2.2 | (with_reducible refine Kd.C_alloc ?_ _) | (with_reducible refine Kd.C_drewN ?_ _) | (with_reducible refine Kd.C_drew ?_))); (case side2 => exact (Kd.R_reads' HO244.out).2.1); rintro e w49 ⟨rfl, hb⟩; have n0_ := Aside0.mk (Kd.R_below (by (with_reducible repeat (first | apply Kd.R_alloc | apply Kd.R_drewN | apply Kd.R_drew)); exact HO244.out) hb); have n1_ := Aside0.mk (Kd.R_below (by (with_reducible repeat (first | apply Kd.R_alloc | apply Kd.R_drewN | apply Kd.R_drew)); exact HO249.out) hb); have n2_ := Aside0.mk (below_step (by repeat (first | (with_reducible first | exact HB.out | apply below_alloc | apply pw_below_drewN | apply below_drew1) | exact HB.out)) hb); clear HO244; clear HO249; clear HB; have HO244 := n0_; have HO249 := n1_; have HB := n2_; clear n0_ n1_ n2_; (try clear hb); (try clear hb2); (try clear hk); (try clear hi)) | (go_at_call 13; (with_reducible refine (lodestoneref15_May.calls k _ _ t242 t253 _ ?side1 ?side2 A11.out).mono ?_); (case side1 => repeat (first | exact (Kd.R_reads' HO244.out).2.2 | (with_reducible refine Kd.C_alloc ?_ _) | (with_reducible refine Kd.C_drewN ?_ _) | (with_reducible refine Kd.C_drew ?_))); (case side2 => exact (Kd.R_reads' HO244.out).2.1); rintro e w50 ⟨rfl, hb⟩; have n0_ := Aside0.mk (Kd.R_below (by (with_reducible repeat (first | apply Kd.R_alloc | apply Kd.R_drewN | apply Kd.R_drew)); exact HO244.out) hb); have n1_ := Aside0.mk (Kd.R_below (by (with_reducible repeat (first | apply Kd.R_alloc | apply Kd.R_drewN | apply Kd.R_drew)); exact HO249.out) hb); have n2_ := Aside0.mk (below_step (by repeat (first | (with_reducible first | exact HB.out | apply below_alloc | apply pw_below_drewN | apply below_drew1) | exact HB.out)) hb); clear HO244; clear HO249; clear HB; have HO244 := n0_; have HO249 := n1_; have HB := n2_; clear n0_ n1_ n2_; (try clear hb); (try clear hb2); (try clear hk); (try clear hi); obtain ⟨Ao51, co51, eo51⟩ := Kd.R_slice HO249.out; subst eo51) | (go_at_call 14; (with_reducible refine (lodestonelaw15_same.calls k _ _ t242 _ _ t246 true _ ?side1 ?side2 ?side3 ?side4 A41.out).mono ?_); (case side1 => repeat (first | exact (Kd.R_reads' HO244.out).2.2 | (with_reducible refine Kd.C_alloc ?_ _) | (with_reducible refine Kd.C_drewN ?_ _) | (with_reducible refine Kd.C_drew ?_))); (case side2 => exact (Kd.R_reads' HO244.out).2.1); (case side3 => repeat (first | exact (Kd.R_reads' HO249.out).2.2 | (with_reducible refine Kd.C_alloc ?_ _) | (with_reducible refine Kd.C_drewN ?_ _) | (with_reducible refine Kd.C_drew ?_))); (case side4 => exact (Kd.R_reads' HO249.out).2.1); rintro e w' ⟨rfl, ⟨nd, rfl⟩⟩))
              go_ret
              exact ⟨by first | rfl | (simp [errW_none, errW_some] <;> rfl) | (simp [*, errW_none, errW_some] <;> rfl), by repeat (first | (with_reducible first | exact HB.out | apply below_alloc | apply pw_below_drewN | apply below_drew1) | exact HB.out)⟩
            · replace c42 := Bool.eq_false_iff.mpr c42
              subst c42
              have H1 : (some false) = some r := by rw [if_neg (show ¬ (false = true) by decide)] at H; exact H
              clear H
              have H := H1
              clear H1
              exact absurd (H.trans (congrArg some HR_.out)) (by simp)
          · rw [if_neg c40] at H
            have c40b0 : (t247 == 0) = false := beq_eq_false_iff_ne.mpr c40
            have c40b1 : (t247 != 0) = true := bne_iff_ne.mpr c40
            exact absurd (H.trans (congrArg some HR_.out)) (by simp)
    · rw [if_neg c9] at H
      have c9b0 : (t245.toList == t251.toList) = false := beq_eq_false_iff_ne.mpr c9
      have c9b1 : (t245.toList != t251.toList) = true := bne_iff_ne.mpr c9
      exact absurd (H.trans (congrArg some HR_.out)) (by simp)
  · replace c7 := Bool.eq_false_iff.mpr c7
    subst c7
    have H1 : (some false) = some r := by rw [if_neg (show ¬ (false = true) by decide)] at H; exact H
    clear H
    have H := H1
    clear H1
    exact absurd (H.trans (congrArg some HR_.out)) (by simp)

end Go.Proofs.Ytlahimndndlbiaa.PWalPuts
