/- The law DeltaOver, walked. -/
import Derived.Test.YtdkepbmpcbnkpaaDlO
import Derived.Test.YtdkepbmpcbnkpaaDlM
namespace Go.Proofs.Ytdkepbmpcbnkpaa.Dl
open Go.RowKit Go.Proofs.YtdkepbmpcbnkpaaW.PrintWords Go.Proofs.YtdkepbmpcbnkpaaW.PrintLast Go.Proofs.YtdkepbmpcbnkpaaW.PrintMore Go.Proofs.Ytdkepbmpcbnkpaa.XB Go.Proofs.Ytdkepbmpcbnkpaa.PDeltaPlays
attribute [local go_sem] max2_int min2_int max_two min_two max_three min_three max_four min_four
set_option linter.unusedVariables false
set_option linter.unusedSimpArgs false
variable {w w' : World} {p : At} {rv : Value} {l : List S26}
theorem eqA47 (d : Nat) (w : World) (x0 y0 : ByteArray) (x1 y1 : ByteArray) :
    (Op.equalIn (d + 2) 47 (.agg #[.string x0, .string x1]) (.agg #[.string y0, .string y1])).run Try.prog w = .ok (x0.toList == y0.toList && (x1.toList == y1.toList)) w := by
  refine eqA_of Try.underlying47 (by kernel_rfl) ?_
  refine eqf_cons (by rfl) (by go_simp; rfl) (by go_simp; rfl) (by go_simp) ?_
  exact eqf_last (by rfl) (by go_simp; rfl) (by go_simp; rfl) (by go_simp)
attribute [local go_sem high] eqA47
theorem over_nil (E : List S47) : overL E [] = E := by rw [overL]
theorem mask63 (x : Int) : ∃ n : Nat, n < 64 ∧ Go.bits .and .i64 x 63 = (n : Int) := by
  refine ⟨(x % 64).toNat, by omega, ?_⟩
  have h := and_mask64 x 6 (by decide) (by decide)
  have e : (((2 ^ 6 - 1 : Nat)) : Int) = 63 := rfl
  rw [e] at h
  rw [h]
  show x % 64 = _
  omega
/-- entries that were there -/
structure Dq (w : World) (j : Nat) (E : List S47) (v7 : Value) (W : World) : Prop where
  row : Kd.R k47 47 W w.heap.size (fun _ => True) v7 E
  ris : RisesE E
  len : E.length ≤ j
  bel : Below w.heap.size w W
/-- changes, and the entries behind them -/
structure Do (g : Nat) (w1 : World) (j : Nat) (E : List S47) (d : List S26) (rv v10 : Value) (W : World) : Prop where
  tab : Ch W ⟨g, g⟩ rv d
  row : Kd.R k47 47 W 0 (fun k => k ≠ g ∧ some k ≠ rv.ownBlock) v10 (overL E d)
  ris : Rises d
  len : d.length ≤ j
  bel : Below g w1 W
set_option maxHeartbeats 40000000 in
set_option maxRecDepth 100000 in
theorem over_law (A A2 : Option Addr) (c c2 : Nat) (acts : List S44) (cs : List S26) (most : Int) (w : World) (hC : Kd.C k44 w A acts.length acts) (hC2 : Kd.C k26 w A2 cs.length cs) :
    Calls Try.prog 5 #[.slice A acts.length c, .slice A2 cs.length c2, .int .i64 most] w fun e w' => e = .returned (.bool true) ∧ Below w.heap.size w w' := by
  have HC := Aside0.mk hC
  have HC2 := Aside0.mk hC2
  clear hC hC2
  have DQ := Aside0.mk (show Dq w 0 [] (.slice (some ⟨w.heap.size, 0, none⟩) 0 0) (w.alloc (.cells #[] 47)) from ⟨⟨fun _ _ => trivial, [], World.ownsRow_made w #[] 0 (Nat.le_refl _) (Nat.zero_le _) rfl, Reps.none _ _⟩, List.Pairwise.nil, Nat.le_refl _, below_alloc (Below.refl _ _) _⟩)
  go_enter Try.func5, Try.ntmps5
  go_wp2
  go_loopw [7, 8] (fun v7 i w' => ∃ j : Nat, j ≤ acts.length ∧ j ≤ 30 ∧ i = .int .i64 (j : Int) ∧ ∃ E, Aside0 (Dq w j E v7 w')) (fun _ i _ => acts.length - (intOf i).toNat)
  case atStart => exact ⟨0, Nat.zero_le _, Nat.zero_le _, rfl, _, DQ⟩
  case round =>
    clear DQ
    obtain ⟨j, hj, hj30, rfl, E, HI⟩ := hrel
    obtain ⟨A7, c7, e7, hl7, _⟩ := Kd.R_reads HI.out.row
    subst e7
    have HL7 := Aside0.mk hl7
    clear hl7
    by_cases hlt : j < acts.length ∧ j < 30
    · have q0 : decide ((j : Int) < (acts.length : Int)) = true := decide_eq_true (by omega)
      have q1 : decide (j < acts.length) = true := decide_eq_true hlt.1
      have q2 : decide ((j : Int) < 30) = true := decide_eq_true (by omega)
      have q3 : decide (j < 30) = true := decide_eq_true hlt.2
      have j0 : (0 : Int) ≤ (j : Int) := by omega
      have j1 : (j : Int) < (acts.length : Int) := by omega
      have hlt2 := hlt.1
      have hlt3 : j + 1 ≤ 30 := hlt.2
      obtain ⟨ad, hA, y0, y1, y2, y3⟩ := at_T44 (Kd.C_below HC.out HI.out.bel) (j : Int) j0 j1
      rw [Int.toNat_natCast] at y0 y1 y2 y3
      subst hA
      obtain ⟨a, ha⟩ : ∃ a, rd_T44 acts (j : Int) = a := ⟨_, rfl⟩
      rw [ha] at y0 y1 y2 y3
      obtain ⟨jm, hjm⟩ : ∃ jm : Int, (if 5 < (a.f2.size : Int) then 5 else (a.f2.size : Int)) = jm := ⟨_, rfl⟩
      have m0 : 0 ≤ jm := by rw [← hjm]; split <;> omega
      have m1 : jm ≤ (a.f2.size : Int) := by rw [← hjm]; split <;> omega
      have m2 : jm ≤ 5 := by rw [← hjm]; split <;> omega
      have m3 := eq_true m0
      have m4 := eq_true m1
      have m5 : decide (0 ≤ jm) = true := decide_eq_true m0
      have m6 : decide (jm ≤ (a.f2.size : Int)) = true := decide_eq_true m1
      have SK := Aside0.mk (show E.length < 1000 from by have := HI.out.len; omega)
      clear ha hlt y0 y3
      go_wp2
      refine start_ (n := 23) (S := fun w' => w'.cell? ⟨(ad.add (j * 4)).block, (ad.add (j * 4)).off + 1, none⟩ = some (.int .i64 a.f1) ∧ w'.cell? ⟨(ad.add (j * 4)).block, (ad.add (j * 4)).off + 2, none⟩ = some (.string a.f2)) (ds := [21]) #[false, false, false, false, false, false, false, false, false, false, false, false, false, false, false, false, false, false, false, false, false, false, false] (by kernel_rfl) rfl rfl ⟨cell_dr y1, cell_dr y2⟩ (fun hHeld => ?_)
      refine pure_ (i := 0) (N := some 27) (v := ?_) (a' := ?_) #[true, false, false, false, false, false, false, false, false, false, false, false, false, false, false, false, false, false, false, false, false, false, false] rfl rfl (by kernel_rfl) (fun _ _ _ h => h) (Or.inl ⟨by rfl, ?_⟩) ?_ ?_
      rotate_left
      · intro w'
        go_simp
        with_reducible rfl
      rotate_left
      · simp only [Act.put, List.setIfInBounds_toArray, List.set_cons_zero, List.set_cons_succ, i64_w, i32_w]
        rfl
      refine pure_ (i := 1) (N := some 28) (v := ?_) (a' := ?_) #[true, true, false, false, false, false, false, false, false, false, false, false, false, false, false, false, false, false, false, false, false, false, false] rfl rfl (by kernel_rfl) (fun _ _ _ h => h) (Or.inl ⟨by rfl, ?_⟩) ?_ ?_
      rotate_left
      · intro w'
        go_simp
        with_reducible rfl
      rotate_left
      · simp only [Act.put, List.setIfInBounds_toArray, List.set_cons_zero, List.set_cons_succ, i64_w, i32_w]
        rfl
      refine pure_ (i := 2) (N := some 29) (v := ?_) (a' := ?_) #[true, true, true, false, false, false, false, false, false, false, false, false, false, false, false, false, false, false, false, false, false, false, false] rfl rfl (by kernel_rfl) (fun _ _ _ h => h) (Or.inl ⟨by rfl, ?_⟩) ?_ ?_
      rotate_left
      · intro w'
        go_simp
        with_reducible rfl
      rotate_left
      · simp only [Act.put, List.setIfInBounds_toArray, List.set_cons_zero, List.set_cons_succ, i64_w, i32_w]
        rfl
      refine pure_ (i := 3) (N := some 30) (v := ?_) (a' := ?_) #[true, true, true, true, false, false, false, false, false, false, false, false, false, false, false, false, false, false, false, false, false, false, false] rfl rfl (by kernel_rfl) (fun _ _ _ h => h) (Or.inl ⟨by rfl, ?_⟩) ?_ ?_
      rotate_left
      · intro w'
        go_simp
        with_reducible rfl
      rotate_left
      · simp only [Act.put, List.setIfInBounds_toArray, List.set_cons_zero, List.set_cons_succ, i64_w, i32_w]
        rfl
      refine pure_ (i := 4) (N := some 31) (v := ?_) (a' := ?_) #[true, true, true, true, true, false, false, false, false, false, false, false, false, false, false, false, false, false, false, false, false, false, false] rfl rfl (by kernel_rfl) (fun _ _ _ h => h) (Or.inl ⟨by rfl, ?_⟩) ?_ ?_
      rotate_left
      · intro w'
        go_simp
        with_reducible rfl
      rotate_left
      · simp only [Act.put, List.setIfInBounds_toArray, List.set_cons_zero, List.set_cons_succ, i64_w, i32_w]
        rfl
      refine pure_ (i := 8) (N := some 35) (v := ?_) (a' := ?_) #[true, true, true, true, true, false, false, false, true, false, false, false, false, false, false, false, false, false, false, false, false, false, false] rfl rfl (by kernel_rfl) (fun _ _ _ h => h) (Or.inl ⟨by rfl, ?_⟩) ?_ ?_
      rotate_left
      · intro w'
        go_simp
        with_reducible rfl
      rotate_left
      · simp only [Act.put, List.setIfInBounds_toArray, List.set_cons_zero, List.set_cons_succ, i64_w, i32_w]
        rfl
      refine pure_ (i := 9) (N := some 36) (v := ?_) (a' := ?_) #[true, true, true, true, true, false, false, false, true, true, false, false, false, false, false, false, false, false, false, false, false, false, false] rfl rfl (by kernel_rfl) (fun _ _ _ h => h) (Or.inl ⟨by rfl, ?_⟩) ?_ ?_
      rotate_left
      · intro w'
        go_simp
        with_reducible rfl
      rotate_left
      · simp only [Act.put, List.setIfInBounds_toArray, List.set_cons_zero, List.set_cons_succ, i64_w, i32_w]
        rfl
      refine pure_ (i := 10) (N := some 37) (v := ?_) (a' := ?_) #[true, true, true, true, true, false, false, false, true, true, true, false, false, false, false, false, false, false, false, false, false, false, false] rfl rfl (by kernel_rfl) (fun _ _ _ h => h) (Or.inl ⟨by rfl, ?_⟩) ?_ ?_
      rotate_left
      · intro w'
        go_simp
        with_reducible rfl
      rotate_left
      · simp only [Act.put, List.setIfInBounds_toArray, List.set_cons_zero, List.set_cons_succ, i64_w, i32_w]
        rfl
      refine pure_ (i := 11) (N := some 38) (v := ?_) (a' := ?_) #[true, true, true, true, true, false, false, false, true, true, true, true, false, false, false, false, false, false, false, false, false, false, false] rfl rfl (by kernel_rfl) (fun _ _ _ h => h) (Or.inl ⟨by rfl, ?_⟩) ?_ ?_
      rotate_left
      · intro w'
        go_simp
        with_reducible rfl
      rotate_left
      · simp only [Act.put, List.setIfInBounds_toArray, List.set_cons_zero, List.set_cons_succ, i64_w, i32_w]
        rfl
      refine pure_ (i := 13) (N := some 40) (v := ?_) (a' := ?_) #[true, true, true, true, true, false, false, false, true, true, true, true, false, true, false, false, false, false, false, false, false, false, false] rfl rfl (by kernel_rfl) (fun _ _ _ h => h) (Or.inl ⟨by rfl, ?_⟩) ?_ ?_
      rotate_left
      · intro w'
        go_simp
        with_reducible rfl
      rotate_left
      · simp only [Act.put, List.setIfInBounds_toArray, List.set_cons_zero, List.set_cons_succ, i64_w, i32_w]
        rfl
      refine pure_ (i := 14) (N := some 41) (v := ?_) (a' := ?_) #[true, true, true, true, true, false, false, false, true, true, true, true, false, true, true, false, false, false, false, false, false, false, false] rfl rfl (by kernel_rfl) (fun _ _ _ h => h) (Or.inl ⟨by rfl, ?_⟩) ?_ ?_
      rotate_left
      · intro w'
        go_simp
        with_reducible rfl
      rotate_left
      · simp only [Act.put, List.setIfInBounds_toArray, List.set_cons_zero, List.set_cons_succ, i64_w, i32_w]
        rfl
      refine pure_ (i := 15) (N := some 42) (v := ?_) (a' := ?_) #[true, true, true, true, true, false, false, false, true, true, true, true, false, true, true, true, false, false, false, false, false, false, false] rfl rfl (by kernel_rfl) (fun _ _ _ h => h) (Or.inl ⟨by rfl, ?_⟩) ?_ ?_
      rotate_left
      · intro w'
        go_simp
        with_reducible rfl
      rotate_left
      · simp only [Act.put, List.setIfInBounds_toArray, List.set_cons_zero, List.set_cons_succ, i64_w, i32_w]
        rfl
      refine pure_ (i := 16) (N := some 43) (v := ?_) (a' := ?_) #[true, true, true, true, true, false, false, false, true, true, true, true, false, true, true, true, true, false, false, false, false, false, false] rfl rfl (by kernel_rfl) (fun _ _ _ h => h) (Or.inl ⟨by rfl, ?_⟩) ?_ ?_
      rotate_left
      · intro w'
        go_simp
        with_reducible rfl
      rotate_left
      · simp only [Act.put, List.setIfInBounds_toArray, List.set_cons_zero, List.set_cons_succ, i64_w, i32_w]
        rfl
      refine take_ (i := 5) (N := some 32) (v := ?_) (a' := ?_) #[true, true, true, true, true, true, false, false, true, true, true, true, false, true, true, true, true, false, false, false, false, false, false] rfl rfl (by kernel_rfl) (fun _ _ _ h => h) (Or.inl ⟨by rfl, ?_⟩) hHeld ?_ ?_
      rotate_left
      · rintro w' ⟨s0, s1⟩
        go_simp
        with_reducible rfl
      rotate_left
      · simp only [Act.put, List.setIfInBounds_toArray, List.set_cons_zero, List.set_cons_succ, i64_w, i32_w]
        rfl
      refine pure_ (i := 6) (N := some 33) (v := ?_) (a' := ?_) #[true, true, true, true, true, true, true, false, true, true, true, true, false, true, true, true, true, false, false, false, false, false, false] rfl rfl (by kernel_rfl) (fun _ _ _ h => h) (Or.inl ⟨by rfl, ?_⟩) ?_ ?_
      rotate_left
      · intro w'
        go_simp
        with_reducible rfl
      rotate_left
      · simp only [Act.put, List.setIfInBounds_toArray, List.set_cons_zero, List.set_cons_succ, i64_w, i32_w]
        rfl
      refine take_ (i := 12) (N := some 39) (v := ?_) (a' := ?_) #[true, true, true, true, true, true, true, false, true, true, true, true, true, true, true, true, true, false, false, false, false, false, false] rfl rfl (by kernel_rfl) (fun _ _ _ h => h) (Or.inl ⟨by rfl, ?_⟩) hHeld ?_ ?_
      rotate_left
      · rintro w' ⟨s0, s1⟩
        go_simp
        with_reducible rfl
      rotate_left
      · simp only [Act.put, List.setIfInBounds_toArray, List.set_cons_zero, List.set_cons_succ, i64_w, i32_w]
        rfl
      refine take_ (i := 17) (N := some 44) (v := ?_) (a' := ?_) #[true, true, true, true, true, true, true, false, true, true, true, true, true, true, true, true, true, true, false, false, false, false, false] rfl rfl (by kernel_rfl) (fun _ _ _ h => h) (Or.inl ⟨by rfl, ?_⟩) hHeld ?_ ?_
      rotate_left
      · rintro w' ⟨s0, s1⟩
        go_simp
        with_reducible rfl
      rotate_left
      · simp only [Act.put, List.setIfInBounds_toArray, List.set_cons_zero, List.set_cons_succ, i64_w, i32_w]
        rfl
      refine pure_ (i := 18) (N := some 45) (v := ?_) (a' := ?_) #[true, true, true, true, true, true, true, false, true, true, true, true, true, true, true, true, true, true, true, false, false, false, false] rfl rfl (by kernel_rfl) (fun _ _ _ h => h) (Or.inl ⟨by rfl, ?_⟩) ?_ ?_
      rotate_left
      · intro w'
        go_simp
        with_reducible rfl
      rotate_left
      · simp only [Act.put, List.setIfInBounds_toArray, List.set_cons_zero, List.set_cons_succ, i64_w, i32_w]
        rfl
      refine pure_ (i := 19) (N := some 46) (v := ?_) (a' := ?_) #[true, true, true, true, true, true, true, false, true, true, true, true, true, true, true, true, true, true, true, true, false, false, false] rfl rfl (by kernel_rfl) (fun _ _ _ h => h) (Or.inl ⟨by rfl, ?_⟩) ?_ ?_
      rotate_left
      · intro w'
        go_simp
        with_reducible rfl
      rotate_left
      · simp only [Act.put, List.setIfInBounds_toArray, List.set_cons_zero, List.set_cons_succ, i64_w, i32_w]
        rfl
      refine pure_ (i := 20) (N := some 47) (v := ?_) (a' := ?_) #[true, true, true, true, true, true, true, false, true, true, true, true, true, true, true, true, true, true, true, true, true, false, false] rfl rfl (by kernel_rfl) (fun _ _ _ h => h) (Or.inl ⟨by rfl, ?_⟩) ?_ ?_
      rotate_left
      · intro w'
        go_simp
        with_reducible rfl
      rotate_left
      · simp only [Act.put, List.setIfInBounds_toArray, List.set_cons_zero, List.set_cons_succ, i64_w, i32_w]
        rfl
      refine one_ (i := 7) (N := some 34) #[true, true, true, true, true, true, true, true, true, true, true, true, true, true, true, true, true, true, true, true, true, false, false] rfl rfl (by kernel_rfl) (by decide) (fun K hK => ?_)
      refine goes_ Try.func19 (by kernel_rfl) rfl #[.agg #[.int .i64 0, .int .i64 a.f1, .string ⟨#[]⟩, .int .i64 0]] (by rfl) rfl rfl (by simp only [List.map_toArray, List.map_cons, List.map_nil]; rfl) ?_
      with_reducible refine (Key_calls a.f1 _).mono ?_
      rintro e w8 ⟨rfl, hb8⟩
      refine ⟨_, rfl, ?_⟩
      refine hK.out _ _ ⟨pw_cell_below hb8 hHeld.1, pw_cell_below hb8 hHeld.2⟩ (fun hHeld => ?_)
      clear hK K
      refine norm_ (a' := ?_) ?_ ?_
      rotate_left
      · show Act.put _ (some 34) _ = _
        simp only [Act.put, List.setIfInBounds_toArray, List.set_cons_zero, List.set_cons_succ, i64_w, i32_w]
        rfl
      refine last_ (i := 21) (N := some 48) #[true, true, true, true, true, true, true, true, true, true, true, true, true, true, true, true, true, true, true, true, true, true, false] rfl rfl (by kernel_rfl) (by decide) (fun K hK => ?_)
      refine goes_ Try.func18 (by kernel_rfl) rfl #[.slice A7 E.length c7, .string (keyOf a.f1), .string (a.f2.extract 0 jm.toNat), .bool false] (by rfl) rfl rfl (by simp only [List.map_toArray, List.map_cons, List.map_nil]; rfl) ?_
      with_reducible refine (With_calls A7 c7 HI.out.ris ⟨keyOf a.f1, a.f2.extract 0 jm.toNat, false⟩ _ (Kd.C_below (Kd.R_reads' HI.out.row).2.2 (below_step (below_drew1 (Below.refl _ _)) hb8)) HL7.out SK.out).mono ?_
      rintro e w9 ⟨v9, rfl, hR9, hb9⟩
      refine ⟨_, rfl, ?_⟩
      refine hK.out _ _ ?_
      clear hK K
      refine norm_ (a' := ?_) ?_ ?_
      rotate_left
      · show Act.put _ (some 48) _ = _
        simp only [Act.put, List.setIfInBounds_toArray, List.set_cons_zero, List.set_cons_succ, i64_w, i32_w]
        rfl
      refine pure_ (i := 22) (N := some 7) (v := ?_) (a' := ?_) #[true, true, true, true, true, true, true, true, true, true, true, true, true, true, true, true, true, true, true, true, true, true, true] rfl rfl (by kernel_rfl) (fun _ _ _ h => h) (Or.inl ⟨by rfl, ?_⟩) ?_ ?_
      rotate_left
      · intro w'
        go_simp
        with_reducible rfl
      rotate_left
      · simp only [Act.put, List.setIfInBounds_toArray, List.set_cons_zero, List.set_cons_succ, i64_w, i32_w]
        rfl
      refine done_ (by kernel_rfl) ?_
      have DN := Aside0.mk (show Dq w (j + 1) (overL E [⟨keyOf a.f1, a.f2.extract 0 jm.toNat, false⟩]) v9 w9 from ⟨Kd.R_lower hR9 (Nat.le_trans HI.out.bel.size hb8.size), over_rises _ _ HI.out.ris (rises_one _), Nat.le_trans (over_length _ _) (Nat.succ_le_succ HI.out.len), HI.out.bel.trans (((below_step (below_drew1 (Below.refl _ _)) hb8).trans (hb9.mono hb8.size)).mono HI.out.bel.size)⟩)
      clear hHeld hR9 hb8 hb9 y1 y2
      go_wp2
      exact ⟨⟨j + 1, hlt2, hlt3, by go_num, _, DN⟩, measj hlt2⟩
    · have LE := Aside0.mk (show E.length ≤ 30 from Nat.le_trans HI.out.len hj30)
      by_cases hl1 : j < acts.length
      · have q0 : decide ((j : Int) < (acts.length : Int)) = true := decide_eq_true (by omega)
        have q1 : decide (j < acts.length) = true := decide_eq_true hl1
        have q2 : decide ((j : Int) < 30) = false := decide_eq_false (by omega)
        have q3 : decide (j < 30) = false := decide_eq_false (by omega)
        clear hlt
        rename World => wP
        go_wp2_with (first | (go_at_call 6; fail))
        refine (new_calls _).mono ?_
        rintro e w1 ⟨rfl, hT, hb⟩
        obtain ⟨g, hg⟩ : ∃ g, wP.heap.size = g := ⟨_, rfl⟩
        rw [hg] at hT hb ⊢
        have EG := Aside0.mk hg
        have H0 := Aside0.mk HI.out.bel
        have GW := Aside0.mk (show g ≤ w1.heap.size from by rw [← EG.out]; exact (show Below wP.heap.size wP w1 from by rw [EG.out]; exact hb).size)
        have BG := Aside0.mk (fun (W : World) (hW : Below g w1 W) => (show Below w.heap.size w W from H0.out.trans ((hb.trans hW).mono (by rw [← EG.out]; exact H0.out.size))))
        have RE := Aside0.mk HI.out.ris
        have R7 := Aside0.mk (show Kd.R k47 47 w1 w.heap.size (fun k => k < g) (.slice A7 E.length c7) E from Kd.R_mono (Kd.R_below (Kd.R_bound HI.out.row) (by rw [EG.out]; exact hb)) (fun k hk => by rw [← EG.out]; exact hk.2.2.1))
        have V7 := Aside0.mk (fun (W : World) (hW : Below g w1 W) => (show Kd.R k47 47 W w.heap.size (fun k => k < g) (.slice A7 E.length c7) E from Kd.R_step R7.out (fun k hk _ => hW.block k hk)))
        have DO := Aside0.mk (show Do g w1 0 E [] (.slice none 0 0) (.slice A7 E.length c7) w1 from ⟨hT, by rw [over_nil]; exact Kd.R_lower (Kd.R_mono R7.out (fun k hk => ⟨Nat.ne_of_lt hk, by simp [Value.ownBlock]⟩)) (Nat.zero_le _), rises_nil, Nat.le_refl _, Below.refl _ _⟩)
        clear hT hb hg HI R7
        go_wp2
        go_loopw [10, 11] (fun v10 i w' => ∃ j : Nat, j ≤ cs.length ∧ j ≤ 30 ∧ i = .int .i64 (j : Int) ∧ ∃ d rv, Aside0 (Do g w1 j E d rv v10 w')) (fun _ i _ => cs.length - (intOf i).toNat)
        case atStart => exact ⟨0, Nat.zero_le _, Nat.zero_le _, rfl, _, _, DO⟩
        case round =>
          clear DO hj hj30 q0 q1
          try clear q2
          try clear q3
          try clear hl1
          obtain ⟨j, hj, hj30, rfl, d, rv, DO⟩ := hrel
          obtain ⟨A10, c10, e10, hl10, _⟩ := Kd.R_reads DO.out.row
          subst e10
          have HL10 := Aside0.mk hl10
          have DL := Aside0.mk (show d.length ≤ 30 from Nat.le_trans DO.out.len hj30)
          have LO := Aside0.mk (show (overL E d).length ≤ 60 from Nat.le_trans (over_length E d) (by have h1 := LE.out; have h2 := DL.out; omega))
          clear hl10
          by_cases hlt : j < cs.length ∧ j < 30
          · have q0 : decide ((j : Int) < (cs.length : Int)) = true := decide_eq_true (by omega)
            have q1 : decide (j < cs.length) = true := decide_eq_true hlt.1
            have q2 : decide ((j : Int) < 30) = true := decide_eq_true (by omega)
            have q3 : decide (j < 30) = true := decide_eq_true hlt.2
            have j0 : (0 : Int) ≤ (j : Int) := by omega
            have j1 : (j : Int) < (cs.length : Int) := by omega
            have hlt2 := hlt.1
            have hlt3 : j + 1 ≤ 30 := hlt.2
            obtain ⟨ad, hA, y0, y1, y2⟩ := at_T26 (Kd.C_below HC2.out (BG.out _ DO.out.bel)) (j : Int) j0 j1
            rw [Int.toNat_natCast] at y0 y1 y2
            subst hA
            obtain ⟨a, ha⟩ : ∃ a, rd_T26 cs (j : Int) = a := ⟨_, rfl⟩
            rw [ha] at y0 y1 y2
            obtain ⟨u, hu, hu2⟩ := few_ex a
            have EU := Aside0.mk hu
            clear ha hlt hu hu2
            go_wp2_with (first | (go_at_call 7; fail))
            refine (lodestonelaw21_few.calls a.f0 a.f1 a.f2 u.f0 u.f1 u.f2 _ EU.out).mono ?_
            rintro e w5 ⟨rfl, hb⟩
            have b5 := below_alloc hb (.cells #[.string u.f0, .string u.f1, .bool u.f2] 26)
            have hbx := heap_alloc_new w5 (.cells #[.string u.f0, .string u.f1, .bool u.f2] 26)
            have H6 := Aside0.mk (DO.out.tab.below b5)
            have R6 := Aside0.mk (Kd.R_below DO.out.row b5)
            have B6 := Aside0.mk (DO.out.bel.trans (b5.mono DO.out.tab.base))
            have N6 := Aside0.mk (show ∀ k, rv.ownBlock = some k → k < w5.heap.size from fun k hk => Nat.lt_of_lt_of_le (Kd.R_lt DO.out.tab.row k hk) (below_size hb))
            have G6 := Aside0.mk (show g < w5.heap.size from Nat.lt_of_lt_of_le (blk_lt DO.out.tab.cells) (below_size hb))
            have HX := Aside0.mk hbx
            have RIS := Aside0.mk DO.out.ris
            have LEN := Aside0.mk DO.out.len
            have b0 : (w5.alloc (.cells #[.string u.f0, .string u.f1, .bool u.f2] 26)).cell? ⟨w5.heap.size, 0, none⟩ = some (.string u.f0) := blk_cell hbx 0
            have b1 : (w5.alloc (.cells #[.string u.f0, .string u.f1, .bool u.f2] 26)).cell? ⟨w5.heap.size, 1, none⟩ = some (.string u.f1) := blk_cell hbx 1
            have b2 : (w5.alloc (.cells #[.string u.f0, .string u.f1, .bool u.f2] 26)).cell? ⟨w5.heap.size, 2, none⟩ = some (.bool u.f2) := blk_cell hbx 2
            clear hb b5 hbx DO y0 y1 y2
            by_cases hk : u.f0.toList = []
            · have s1 : (u.f0.toList == []) = true := by rw [hk]; rfl
              have s0 : u.f0.toList.isEmpty = true := by rw [hk]; rfl
              have HK := Aside0.mk hk
              clear hk
              go_wp2_with (first | (go_at_call 8; fail))
              refine (put_empty (p := ⟨g, g⟩) H6.out u HK.out).mono ?_
              rintro e w6 ⟨rfl, hb⟩
              have hbx := blk_below HX.out hb
              have DN := Aside0.mk (show Do g w1 (j + 1) E d rv (.slice A10 (overL E d).length c10) w6 from ⟨H6.out.below hb, Kd.R_below R6.out hb, RIS.out, Nat.le_succ_of_le LEN.out, B6.out.trans (hb.mono H6.out.base)⟩)
              obtain ⟨bx, hbe⟩ : ∃ bx, w5.heap.size = bx := ⟨_, rfl⟩
              rw [hbe] at hbx ⊢
              have b0 : w6.cell? ⟨bx, 0, none⟩ = some (.string u.f0) := blk_cell hbx 0
              clear hb hbx b1 b2 H6 R6 B6 HX hbe
              go_wp2
              exact ⟨⟨j + 1, hlt2, hlt3, by go_num, _, _, DN⟩, measj hlt2⟩
            · have s1 : (u.f0.toList == []) = false := beq_eq_false_iff_ne.mpr hk
              have s0 : u.f0.toList.isEmpty = false := by cases hw : u.f0.toList with | nil => exact absurd hw hk | cons _ _ => rfl
              have HK := Aside0.mk hk
              clear hk
              go_wp2_with (first | (go_at_call 8; fail))
              refine (put_calls (p := ⟨g, g⟩) H6.out RIS.out u (by have := LEN.out; omega)).mono ?_
              rintro e w6 ⟨rfl, ⟨rv6, hT6⟩, hb6, hF6⟩
              have hbx := (hF6 w5.heap.size (by rw [World.size_alloc]; exact Nat.lt_succ_self _) (by have := G6.out; show w5.heap.size ≠ g; omega) (fun e => Nat.lt_irrefl _ (N6.out _ e.symm))).trans HX.out
              have R7 := Aside0.mk (Kd.R_step R6.out (fun k hk hl => hF6 k hl hk.1 hk.2))
              have H7 := Aside0.mk hT6
              have B7 := Aside0.mk (B6.out.trans hb6)
              have HX7 := Aside0.mk hbx
              obtain ⟨bx, hbe⟩ : ∃ bx, w5.heap.size = bx := ⟨_, rfl⟩
              rw [hbe] at hbx HX7 ⊢
              have b0 : w6.cell? ⟨bx, 0, none⟩ = some (.string u.f0) := blk_cell hbx 0
              have b1 : w6.cell? ⟨bx, 1, none⟩ = some (.string u.f1) := blk_cell hbx 1
              have b2 : w6.cell? ⟨bx, 2, none⟩ = some (.bool u.f2) := blk_cell hbx 2
              clear hT6 hb6 hF6 hbx H6 R6 B6 HX hbe N6 G6
              go_wp2_with (first | (go_at_call 18; fail))
              refine (With_calls A10 c10 (over_rises E d RE.out RIS.out) u w6 (Kd.R_reads' R7.out).2.2 HL10.out (by have := LO.out; omega)).mono ?_
              rw [over_put RE.out RIS.out u HK.out]
              rintro e w7 ⟨v7, rfl, hR7, hb⟩
              have DN := Aside0.mk (show Do g w1 (j + 1) E (putL d u) rv6 v7 w7 from ⟨H7.out.below hb,
                Kd.R_lower (Kd.R_mono (Kd.R_bound hR7) (fun k hk => ⟨fun e => by have h1 := hk.2.1; have h2 := blk_lt H7.out.cells; rw [e] at h1; exact Nat.lt_irrefl _ (Nat.lt_of_lt_of_le h2 h1), fun e => by have h1 := hk.2.1; exact Nat.lt_irrefl _ (Nat.lt_of_lt_of_le (Kd.R_lt H7.out.row k e.symm) h1)⟩)) (Nat.zero_le _),
                putL_rises RIS.out u, Nat.le_trans (putL_length d u) (Nat.succ_le_succ LEN.out), B7.out.trans (hb.mono H7.out.base)⟩)
              clear hR7 hb H7 R7 B7 HX7 HL10
              go_wp2
              exact ⟨⟨j + 1, hlt2, hlt3, by go_num, _, _, DN⟩, measj hlt2⟩
          · by_cases hl1 : j < cs.length
            · have q0 : decide ((j : Int) < (cs.length : Int)) = true := decide_eq_true (by omega)
              have q1 : decide (j < cs.length) = true := decide_eq_true hl1
              have q2 : decide ((j : Int) < 30) = false := decide_eq_false (by omega)
              have q3 : decide (j < 30) = false := decide_eq_false (by omega)
              clear hlt
              rename World => wR
              obtain ⟨n, hn, hand⟩ := mask63 most
              obtain ⟨L, hL⟩ : ∃ L, (overL E d).length = L := ⟨_, rfl⟩
              obtain ⟨m, hm⟩ : ∃ m, min n L = m := ⟨_, rfl⟩
              have h1m : (if (n : Int) < (L : Int) then (n : Int) else (L : Int)) = (m : Int) := by rw [← hm]; split <;> omega
              have h2m : (if n < L then (n : Int) else (L : Int)) = (m : Int) := by rw [← hm]; split <;> omega
              have hmL : m ≤ L := by rw [← hm]; exact Nat.min_le_right _ _
              have hmc : m ≤ c10 := by have := HL10.out; omega
              have p0 : (0 : Int) ≤ (m : Int) := by omega
              have p1 : (m : Int) ≤ (c10 : Int) := by omega
              have hm64 : m < 64 := by rw [← hm]; exact Nat.lt_of_le_of_lt (Nat.min_le_left _ _) hn
              have C10 := Aside0.mk (Kd.R_reads' DO.out.row).2.2
              have ET := Aside0.mk (show (overL E d).take n = (overL E d).take m from by rw [← hm, ← hL]; exact List.take_eq_take_min)
              have TL := Aside0.mk (show ((overL E d).take m).length = m from by rw [List.length_take, hL]; exact Nat.min_eq_left hmL)
              have CT := Aside0.mk (show Kd.C k47 wR A10 m ((overL E d).take m) from by
                have h := Kd.C_take C10.out (show m ≤ (overL E d).length from by rw [hL]; exact hmL)
                rw [TL.out] at h
                exact h)
              have HN := Aside0.mk hn
              rw [hL]
              clear hm hn C10 HL10
              go_wp2_with (first | (go_at_call 14; fail))
              refine (all_calls (p := ⟨g, g⟩) DO.out.tab DO.out.ris).mono ?_
              rintro e wb ⟨vb, rfl, hRb, hbb⟩
              obtain ⟨Ab, cb, rfl, hlb, hCb⟩ := Kd.R_reads hRb
              have BB := Aside0.mk hbb
              have RB := Aside0.mk hRb
              clear hRb hbb hlb hCb
              go_wp2_with (first | (go_at_call 20; fail))
              refine (Over_calls A7 Ab c7 cb E d n wb (V7.out wb (DO.out.bel.trans (BB.out.mono DO.out.tab.base))) RB.out (Nat.lt_trans HN.out (by decide)) (by have h1 := LE.out; have h2 := DL.out; omega)).mono ?_
              rw [ET.out]
              rintro e wc ⟨vc, rfl, hRc, hbc⟩
              obtain ⟨Ac, cc, rfl, hlc, hCc⟩ := Kd.R_reads hRc
              rw [TL.out] at hlc hCc ⊢
              have BC := Aside0.mk (below_step BB.out hbc)
              have CC := Aside0.mk hCc
              clear hRc hbc hlc hCc RB BB
              have r0 : ((m : Int) == (m : Int)) = true := beq_self_eq_true _
              go_wp2_with (first | (go_at_call 12; fail))
              refine (awake_calls _).mono ?_
              rintro e wd ⟨rfl, hb⟩
              have BD := Aside0.mk (below_step BC.out hb)
              have CD := Aside0.mk (Kd.C_below CC.out hb)
              clear hb CC BC
              obtain ⟨T, hT⟩ : ∃ T, (overL E d).take m = T := ⟨_, rfl⟩
              rw [hT] at CT CD
              clear hT ET TL
              go_wp2
              go_loopw [15] (fun i W => ∃ q : Nat, q ≤ m ∧ i = .int .i64 (q : Int) ∧ Aside0 (Below wd.heap.size wd W)) (fun i _ => m - (intOf i).toNat)
              case atStart => exact ⟨0, Nat.zero_le _, rfl, .mk (Below.refl _ _)⟩
              case round =>
                obtain ⟨q, hq, rfl, HQ⟩ := hrel
                by_cases hin : q < m
                · have s0 : decide ((q : Int) < (m : Int)) = true := decide_eq_true (by omega)
                  have s1 : decide (q < m) = true := decide_eq_true hin
                  have k0 : (0 : Int) ≤ (q : Int) := by omega
                  have k1 : (q : Int) < (m : Int) := by omega
                  have q64 : q + 1 ≤ 64 := by omega
                  obtain ⟨ac, hAc, t0, t1⟩ := at_T47 (Kd.C_below CD.out HQ.out) (q : Int) k0 k1
                  obtain ⟨aw, hAw, z0, z1⟩ := at_T47 (Kd.C_below CT.out (below_step BD.out HQ.out)) (q : Int) k0 k1
                  rw [Int.toNat_natCast] at t0 t1 z0 z1
                  subst hAc hAw
                  obtain ⟨y, hy⟩ : ∃ y, rd_T47 T (q : Int) = y := ⟨_, rfl⟩
                  rw [hy] at t0 t1 z0 z1
                  have v0 : (y.f0.toList == y.f0.toList) = true := beq_self_eq_true _
                  have v1 : (y.f1.toList == y.f1.toList) = true := beq_self_eq_true _
                  clear hy
                  go_wp2
                  first | go_quiet (fail) | go_region
                  go_wp2
                  exact ⟨⟨q + 1, hin, by go_num, .mk (by (with_reducible repeat (first | exact HQ.out | apply pw_below_drewN | apply below_drew1)))⟩, measj hin⟩
                · have s0 : decide ((q : Int) < (m : Int)) = false := decide_eq_false (by omega)
                  have s1 : decide (q < m) = false := decide_eq_false hin
                  have BE := Aside0.mk (BG.out _ (DO.out.bel.trans ((below_step BD.out HQ.out).mono DO.out.tab.base)))
                  go_wp2
                  go_ret
                  exact ⟨rfl, BE.out⟩
            · have q0 : decide ((j : Int) < (cs.length : Int)) = false := decide_eq_false (by omega)
              have q1 : decide (j < cs.length) = false := decide_eq_false hl1
              clear hlt
              rename World => wR
              obtain ⟨n, hn, hand⟩ := mask63 most
              obtain ⟨L, hL⟩ : ∃ L, (overL E d).length = L := ⟨_, rfl⟩
              obtain ⟨m, hm⟩ : ∃ m, min n L = m := ⟨_, rfl⟩
              have h1m : (if (n : Int) < (L : Int) then (n : Int) else (L : Int)) = (m : Int) := by rw [← hm]; split <;> omega
              have h2m : (if n < L then (n : Int) else (L : Int)) = (m : Int) := by rw [← hm]; split <;> omega
              have hmL : m ≤ L := by rw [← hm]; exact Nat.min_le_right _ _
              have hmc : m ≤ c10 := by have := HL10.out; omega
              have p0 : (0 : Int) ≤ (m : Int) := by omega
              have p1 : (m : Int) ≤ (c10 : Int) := by omega
              have hm64 : m < 64 := by rw [← hm]; exact Nat.lt_of_le_of_lt (Nat.min_le_left _ _) hn
              have C10 := Aside0.mk (Kd.R_reads' DO.out.row).2.2
              have ET := Aside0.mk (show (overL E d).take n = (overL E d).take m from by rw [← hm, ← hL]; exact List.take_eq_take_min)
              have TL := Aside0.mk (show ((overL E d).take m).length = m from by rw [List.length_take, hL]; exact Nat.min_eq_left hmL)
              have CT := Aside0.mk (show Kd.C k47 wR A10 m ((overL E d).take m) from by
                have h := Kd.C_take C10.out (show m ≤ (overL E d).length from by rw [hL]; exact hmL)
                rw [TL.out] at h
                exact h)
              have HN := Aside0.mk hn
              rw [hL]
              clear hm hn C10 HL10
              go_wp2_with (first | (go_at_call 14; fail))
              refine (all_calls (p := ⟨g, g⟩) DO.out.tab DO.out.ris).mono ?_
              rintro e wb ⟨vb, rfl, hRb, hbb⟩
              obtain ⟨Ab, cb, rfl, hlb, hCb⟩ := Kd.R_reads hRb
              have BB := Aside0.mk hbb
              have RB := Aside0.mk hRb
              clear hRb hbb hlb hCb
              go_wp2_with (first | (go_at_call 20; fail))
              refine (Over_calls A7 Ab c7 cb E d n wb (V7.out wb (DO.out.bel.trans (BB.out.mono DO.out.tab.base))) RB.out (Nat.lt_trans HN.out (by decide)) (by have h1 := LE.out; have h2 := DL.out; omega)).mono ?_
              rw [ET.out]
              rintro e wc ⟨vc, rfl, hRc, hbc⟩
              obtain ⟨Ac, cc, rfl, hlc, hCc⟩ := Kd.R_reads hRc
              rw [TL.out] at hlc hCc ⊢
              have BC := Aside0.mk (below_step BB.out hbc)
              have CC := Aside0.mk hCc
              clear hRc hbc hlc hCc RB BB
              have r0 : ((m : Int) == (m : Int)) = true := beq_self_eq_true _
              go_wp2_with (first | (go_at_call 12; fail))
              refine (awake_calls _).mono ?_
              rintro e wd ⟨rfl, hb⟩
              have BD := Aside0.mk (below_step BC.out hb)
              have CD := Aside0.mk (Kd.C_below CC.out hb)
              clear hb CC BC
              obtain ⟨T, hT⟩ : ∃ T, (overL E d).take m = T := ⟨_, rfl⟩
              rw [hT] at CT CD
              clear hT ET TL
              go_wp2
              go_loopw [15] (fun i W => ∃ q : Nat, q ≤ m ∧ i = .int .i64 (q : Int) ∧ Aside0 (Below wd.heap.size wd W)) (fun i _ => m - (intOf i).toNat)
              case atStart => exact ⟨0, Nat.zero_le _, rfl, .mk (Below.refl _ _)⟩
              case round =>
                obtain ⟨q, hq, rfl, HQ⟩ := hrel
                by_cases hin : q < m
                · have s0 : decide ((q : Int) < (m : Int)) = true := decide_eq_true (by omega)
                  have s1 : decide (q < m) = true := decide_eq_true hin
                  have k0 : (0 : Int) ≤ (q : Int) := by omega
                  have k1 : (q : Int) < (m : Int) := by omega
                  have q64 : q + 1 ≤ 64 := by omega
                  obtain ⟨ac, hAc, t0, t1⟩ := at_T47 (Kd.C_below CD.out HQ.out) (q : Int) k0 k1
                  obtain ⟨aw, hAw, z0, z1⟩ := at_T47 (Kd.C_below CT.out (below_step BD.out HQ.out)) (q : Int) k0 k1
                  rw [Int.toNat_natCast] at t0 t1 z0 z1
                  subst hAc hAw
                  obtain ⟨y, hy⟩ : ∃ y, rd_T47 T (q : Int) = y := ⟨_, rfl⟩
                  rw [hy] at t0 t1 z0 z1
                  have v0 : (y.f0.toList == y.f0.toList) = true := beq_self_eq_true _
                  have v1 : (y.f1.toList == y.f1.toList) = true := beq_self_eq_true _
                  clear hy
                  go_wp2
                  first | go_quiet (fail) | go_region
                  go_wp2
                  exact ⟨⟨q + 1, hin, by go_num, .mk (by (with_reducible repeat (first | exact HQ.out | apply pw_below_drewN | apply below_drew1)))⟩, measj hin⟩
                · have s0 : decide ((q : Int) < (m : Int)) = false := decide_eq_false (by omega)
                  have s1 : decide (q < m) = false := decide_eq_false hin
                  have BE := Aside0.mk (BG.out _ (DO.out.bel.trans ((below_step BD.out HQ.out).mono DO.out.tab.base)))
                  go_wp2
                  go_ret
                  exact ⟨rfl, BE.out⟩
      · have q0 : decide ((j : Int) < (acts.length : Int)) = false := decide_eq_false (by omega)
        have q1 : decide (j < acts.length) = false := decide_eq_false hl1
        clear hlt
        rename World => wP
        go_wp2_with (first | (go_at_call 6; fail))
        refine (new_calls _).mono ?_
        rintro e w1 ⟨rfl, hT, hb⟩
        obtain ⟨g, hg⟩ : ∃ g, wP.heap.size = g := ⟨_, rfl⟩
        rw [hg] at hT hb ⊢
        have EG := Aside0.mk hg
        have H0 := Aside0.mk HI.out.bel
        have GW := Aside0.mk (show g ≤ w1.heap.size from by rw [← EG.out]; exact (show Below wP.heap.size wP w1 from by rw [EG.out]; exact hb).size)
        have BG := Aside0.mk (fun (W : World) (hW : Below g w1 W) => (show Below w.heap.size w W from H0.out.trans ((hb.trans hW).mono (by rw [← EG.out]; exact H0.out.size))))
        have RE := Aside0.mk HI.out.ris
        have R7 := Aside0.mk (show Kd.R k47 47 w1 w.heap.size (fun k => k < g) (.slice A7 E.length c7) E from Kd.R_mono (Kd.R_below (Kd.R_bound HI.out.row) (by rw [EG.out]; exact hb)) (fun k hk => by rw [← EG.out]; exact hk.2.2.1))
        have V7 := Aside0.mk (fun (W : World) (hW : Below g w1 W) => (show Kd.R k47 47 W w.heap.size (fun k => k < g) (.slice A7 E.length c7) E from Kd.R_step R7.out (fun k hk _ => hW.block k hk)))
        have DO := Aside0.mk (show Do g w1 0 E [] (.slice none 0 0) (.slice A7 E.length c7) w1 from ⟨hT, by rw [over_nil]; exact Kd.R_lower (Kd.R_mono R7.out (fun k hk => ⟨Nat.ne_of_lt hk, by simp [Value.ownBlock]⟩)) (Nat.zero_le _), rises_nil, Nat.le_refl _, Below.refl _ _⟩)
        clear hT hb hg HI R7
        go_wp2
        go_loopw [10, 11] (fun v10 i w' => ∃ j : Nat, j ≤ cs.length ∧ j ≤ 30 ∧ i = .int .i64 (j : Int) ∧ ∃ d rv, Aside0 (Do g w1 j E d rv v10 w')) (fun _ i _ => cs.length - (intOf i).toNat)
        case atStart => exact ⟨0, Nat.zero_le _, Nat.zero_le _, rfl, _, _, DO⟩
        case round =>
          clear DO hj hj30 q0 q1
          try clear q2
          try clear q3
          try clear hl1
          obtain ⟨j, hj, hj30, rfl, d, rv, DO⟩ := hrel
          obtain ⟨A10, c10, e10, hl10, _⟩ := Kd.R_reads DO.out.row
          subst e10
          have HL10 := Aside0.mk hl10
          have DL := Aside0.mk (show d.length ≤ 30 from Nat.le_trans DO.out.len hj30)
          have LO := Aside0.mk (show (overL E d).length ≤ 60 from Nat.le_trans (over_length E d) (by have h1 := LE.out; have h2 := DL.out; omega))
          clear hl10
          by_cases hlt : j < cs.length ∧ j < 30
          · have q0 : decide ((j : Int) < (cs.length : Int)) = true := decide_eq_true (by omega)
            have q1 : decide (j < cs.length) = true := decide_eq_true hlt.1
            have q2 : decide ((j : Int) < 30) = true := decide_eq_true (by omega)
            have q3 : decide (j < 30) = true := decide_eq_true hlt.2
            have j0 : (0 : Int) ≤ (j : Int) := by omega
            have j1 : (j : Int) < (cs.length : Int) := by omega
            have hlt2 := hlt.1
            have hlt3 : j + 1 ≤ 30 := hlt.2
            obtain ⟨ad, hA, y0, y1, y2⟩ := at_T26 (Kd.C_below HC2.out (BG.out _ DO.out.bel)) (j : Int) j0 j1
            rw [Int.toNat_natCast] at y0 y1 y2
            subst hA
            obtain ⟨a, ha⟩ : ∃ a, rd_T26 cs (j : Int) = a := ⟨_, rfl⟩
            rw [ha] at y0 y1 y2
            obtain ⟨u, hu, hu2⟩ := few_ex a
            have EU := Aside0.mk hu
            clear ha hlt hu hu2
            go_wp2_with (first | (go_at_call 7; fail))
            refine (lodestonelaw21_few.calls a.f0 a.f1 a.f2 u.f0 u.f1 u.f2 _ EU.out).mono ?_
            rintro e w5 ⟨rfl, hb⟩
            have b5 := below_alloc hb (.cells #[.string u.f0, .string u.f1, .bool u.f2] 26)
            have hbx := heap_alloc_new w5 (.cells #[.string u.f0, .string u.f1, .bool u.f2] 26)
            have H6 := Aside0.mk (DO.out.tab.below b5)
            have R6 := Aside0.mk (Kd.R_below DO.out.row b5)
            have B6 := Aside0.mk (DO.out.bel.trans (b5.mono DO.out.tab.base))
            have N6 := Aside0.mk (show ∀ k, rv.ownBlock = some k → k < w5.heap.size from fun k hk => Nat.lt_of_lt_of_le (Kd.R_lt DO.out.tab.row k hk) (below_size hb))
            have G6 := Aside0.mk (show g < w5.heap.size from Nat.lt_of_lt_of_le (blk_lt DO.out.tab.cells) (below_size hb))
            have HX := Aside0.mk hbx
            have RIS := Aside0.mk DO.out.ris
            have LEN := Aside0.mk DO.out.len
            have b0 : (w5.alloc (.cells #[.string u.f0, .string u.f1, .bool u.f2] 26)).cell? ⟨w5.heap.size, 0, none⟩ = some (.string u.f0) := blk_cell hbx 0
            have b1 : (w5.alloc (.cells #[.string u.f0, .string u.f1, .bool u.f2] 26)).cell? ⟨w5.heap.size, 1, none⟩ = some (.string u.f1) := blk_cell hbx 1
            have b2 : (w5.alloc (.cells #[.string u.f0, .string u.f1, .bool u.f2] 26)).cell? ⟨w5.heap.size, 2, none⟩ = some (.bool u.f2) := blk_cell hbx 2
            clear hb b5 hbx DO y0 y1 y2
            by_cases hk : u.f0.toList = []
            · have s1 : (u.f0.toList == []) = true := by rw [hk]; rfl
              have s0 : u.f0.toList.isEmpty = true := by rw [hk]; rfl
              have HK := Aside0.mk hk
              clear hk
              go_wp2_with (first | (go_at_call 8; fail))
              refine (put_empty (p := ⟨g, g⟩) H6.out u HK.out).mono ?_
              rintro e w6 ⟨rfl, hb⟩
              have hbx := blk_below HX.out hb
              have DN := Aside0.mk (show Do g w1 (j + 1) E d rv (.slice A10 (overL E d).length c10) w6 from ⟨H6.out.below hb, Kd.R_below R6.out hb, RIS.out, Nat.le_succ_of_le LEN.out, B6.out.trans (hb.mono H6.out.base)⟩)
              obtain ⟨bx, hbe⟩ : ∃ bx, w5.heap.size = bx := ⟨_, rfl⟩
              rw [hbe] at hbx ⊢
              have b0 : w6.cell? ⟨bx, 0, none⟩ = some (.string u.f0) := blk_cell hbx 0
              clear hb hbx b1 b2 H6 R6 B6 HX hbe
              go_wp2
              exact ⟨⟨j + 1, hlt2, hlt3, by go_num, _, _, DN⟩, measj hlt2⟩
            · have s1 : (u.f0.toList == []) = false := beq_eq_false_iff_ne.mpr hk
              have s0 : u.f0.toList.isEmpty = false := by cases hw : u.f0.toList with | nil => exact absurd hw hk | cons _ _ => rfl
              have HK := Aside0.mk hk
              clear hk
              go_wp2_with (first | (go_at_call 8; fail))
              refine (put_calls (p := ⟨g, g⟩) H6.out RIS.out u (by have := LEN.out; omega)).mono ?_
              rintro e w6 ⟨rfl, ⟨rv6, hT6⟩, hb6, hF6⟩
              have hbx := (hF6 w5.heap.size (by rw [World.size_alloc]; exact Nat.lt_succ_self _) (by have := G6.out; show w5.heap.size ≠ g; omega) (fun e => Nat.lt_irrefl _ (N6.out _ e.symm))).trans HX.out
              have R7 := Aside0.mk (Kd.R_step R6.out (fun k hk hl => hF6 k hl hk.1 hk.2))
              have H7 := Aside0.mk hT6
              have B7 := Aside0.mk (B6.out.trans hb6)
              have HX7 := Aside0.mk hbx
              obtain ⟨bx, hbe⟩ : ∃ bx, w5.heap.size = bx := ⟨_, rfl⟩
              rw [hbe] at hbx HX7 ⊢
              have b0 : w6.cell? ⟨bx, 0, none⟩ = some (.string u.f0) := blk_cell hbx 0
              have b1 : w6.cell? ⟨bx, 1, none⟩ = some (.string u.f1) := blk_cell hbx 1
              have b2 : w6.cell? ⟨bx, 2, none⟩ = some (.bool u.f2) := blk_cell hbx 2
              clear hT6 hb6 hF6 hbx H6 R6 B6 HX hbe N6 G6
              go_wp2_with (first | (go_at_call 18; fail))
              refine (With_calls A10 c10 (over_rises E d RE.out RIS.out) u w6 (Kd.R_reads' R7.out).2.2 HL10.out (by have := LO.out; omega)).mono ?_
              rw [over_put RE.out RIS.out u HK.out]
              rintro e w7 ⟨v7, rfl, hR7, hb⟩
              have DN := Aside0.mk (show Do g w1 (j + 1) E (putL d u) rv6 v7 w7 from ⟨H7.out.below hb,
                Kd.R_lower (Kd.R_mono (Kd.R_bound hR7) (fun k hk => ⟨fun e => by have h1 := hk.2.1; have h2 := blk_lt H7.out.cells; rw [e] at h1; exact Nat.lt_irrefl _ (Nat.lt_of_lt_of_le h2 h1), fun e => by have h1 := hk.2.1; exact Nat.lt_irrefl _ (Nat.lt_of_lt_of_le (Kd.R_lt H7.out.row k e.symm) h1)⟩)) (Nat.zero_le _),
                putL_rises RIS.out u, Nat.le_trans (putL_length d u) (Nat.succ_le_succ LEN.out), B7.out.trans (hb.mono H7.out.base)⟩)
              clear hR7 hb H7 R7 B7 HX7 HL10
              go_wp2
              exact ⟨⟨j + 1, hlt2, hlt3, by go_num, _, _, DN⟩, measj hlt2⟩
          · by_cases hl1 : j < cs.length
            · have q0 : decide ((j : Int) < (cs.length : Int)) = true := decide_eq_true (by omega)
              have q1 : decide (j < cs.length) = true := decide_eq_true hl1
              have q2 : decide ((j : Int) < 30) = false := decide_eq_false (by omega)
              have q3 : decide (j < 30) = false := decide_eq_false (by omega)
              clear hlt
              rename World => wR
              obtain ⟨n, hn, hand⟩ := mask63 most
              obtain ⟨L, hL⟩ : ∃ L, (overL E d).length = L := ⟨_, rfl⟩
              obtain ⟨m, hm⟩ : ∃ m, min n L = m := ⟨_, rfl⟩
              have h1m : (if (n : Int) < (L : Int) then (n : Int) else (L : Int)) = (m : Int) := by rw [← hm]; split <;> omega
              have h2m : (if n < L then (n : Int) else (L : Int)) = (m : Int) := by rw [← hm]; split <;> omega
              have hmL : m ≤ L := by rw [← hm]; exact Nat.min_le_right _ _
              have hmc : m ≤ c10 := by have := HL10.out; omega
              have p0 : (0 : Int) ≤ (m : Int) := by omega
              have p1 : (m : Int) ≤ (c10 : Int) := by omega
              have hm64 : m < 64 := by rw [← hm]; exact Nat.lt_of_le_of_lt (Nat.min_le_left _ _) hn
              have C10 := Aside0.mk (Kd.R_reads' DO.out.row).2.2
              have ET := Aside0.mk (show (overL E d).take n = (overL E d).take m from by rw [← hm, ← hL]; exact List.take_eq_take_min)
              have TL := Aside0.mk (show ((overL E d).take m).length = m from by rw [List.length_take, hL]; exact Nat.min_eq_left hmL)
              have CT := Aside0.mk (show Kd.C k47 wR A10 m ((overL E d).take m) from by
                have h := Kd.C_take C10.out (show m ≤ (overL E d).length from by rw [hL]; exact hmL)
                rw [TL.out] at h
                exact h)
              have HN := Aside0.mk hn
              rw [hL]
              clear hm hn C10 HL10
              go_wp2_with (first | (go_at_call 14; fail))
              refine (all_calls (p := ⟨g, g⟩) DO.out.tab DO.out.ris).mono ?_
              rintro e wb ⟨vb, rfl, hRb, hbb⟩
              obtain ⟨Ab, cb, rfl, hlb, hCb⟩ := Kd.R_reads hRb
              have BB := Aside0.mk hbb
              have RB := Aside0.mk hRb
              clear hRb hbb hlb hCb
              go_wp2_with (first | (go_at_call 20; fail))
              refine (Over_calls A7 Ab c7 cb E d n wb (V7.out wb (DO.out.bel.trans (BB.out.mono DO.out.tab.base))) RB.out (Nat.lt_trans HN.out (by decide)) (by have h1 := LE.out; have h2 := DL.out; omega)).mono ?_
              rw [ET.out]
              rintro e wc ⟨vc, rfl, hRc, hbc⟩
              obtain ⟨Ac, cc, rfl, hlc, hCc⟩ := Kd.R_reads hRc
              rw [TL.out] at hlc hCc ⊢
              have BC := Aside0.mk (below_step BB.out hbc)
              have CC := Aside0.mk hCc
              clear hRc hbc hlc hCc RB BB
              have r0 : ((m : Int) == (m : Int)) = true := beq_self_eq_true _
              go_wp2_with (first | (go_at_call 12; fail))
              refine (awake_calls _).mono ?_
              rintro e wd ⟨rfl, hb⟩
              have BD := Aside0.mk (below_step BC.out hb)
              have CD := Aside0.mk (Kd.C_below CC.out hb)
              clear hb CC BC
              obtain ⟨T, hT⟩ : ∃ T, (overL E d).take m = T := ⟨_, rfl⟩
              rw [hT] at CT CD
              clear hT ET TL
              go_wp2
              go_loopw [15] (fun i W => ∃ q : Nat, q ≤ m ∧ i = .int .i64 (q : Int) ∧ Aside0 (Below wd.heap.size wd W)) (fun i _ => m - (intOf i).toNat)
              case atStart => exact ⟨0, Nat.zero_le _, rfl, .mk (Below.refl _ _)⟩
              case round =>
                obtain ⟨q, hq, rfl, HQ⟩ := hrel
                by_cases hin : q < m
                · have s0 : decide ((q : Int) < (m : Int)) = true := decide_eq_true (by omega)
                  have s1 : decide (q < m) = true := decide_eq_true hin
                  have k0 : (0 : Int) ≤ (q : Int) := by omega
                  have k1 : (q : Int) < (m : Int) := by omega
                  have q64 : q + 1 ≤ 64 := by omega
                  obtain ⟨ac, hAc, t0, t1⟩ := at_T47 (Kd.C_below CD.out HQ.out) (q : Int) k0 k1
                  obtain ⟨aw, hAw, z0, z1⟩ := at_T47 (Kd.C_below CT.out (below_step BD.out HQ.out)) (q : Int) k0 k1
                  rw [Int.toNat_natCast] at t0 t1 z0 z1
                  subst hAc hAw
                  obtain ⟨y, hy⟩ : ∃ y, rd_T47 T (q : Int) = y := ⟨_, rfl⟩
                  rw [hy] at t0 t1 z0 z1
                  have v0 : (y.f0.toList == y.f0.toList) = true := beq_self_eq_true _
                  have v1 : (y.f1.toList == y.f1.toList) = true := beq_self_eq_true _
                  clear hy
                  go_wp2
                  first | go_quiet (fail) | go_region
                  go_wp2
                  exact ⟨⟨q + 1, hin, by go_num, .mk (by (with_reducible repeat (first | exact HQ.out | apply pw_below_drewN | apply below_drew1)))⟩, measj hin⟩
                · have s0 : decide ((q : Int) < (m : Int)) = false := decide_eq_false (by omega)
                  have s1 : decide (q < m) = false := decide_eq_false hin
                  have BE := Aside0.mk (BG.out _ (DO.out.bel.trans ((below_step BD.out HQ.out).mono DO.out.tab.base)))
                  go_wp2
                  go_ret
                  exact ⟨rfl, BE.out⟩
            · have q0 : decide ((j : Int) < (cs.length : Int)) = false := decide_eq_false (by omega)
              have q1 : decide (j < cs.length) = false := decide_eq_false hl1
              clear hlt
              rename World => wR
              obtain ⟨n, hn, hand⟩ := mask63 most
              obtain ⟨L, hL⟩ : ∃ L, (overL E d).length = L := ⟨_, rfl⟩
              obtain ⟨m, hm⟩ : ∃ m, min n L = m := ⟨_, rfl⟩
              have h1m : (if (n : Int) < (L : Int) then (n : Int) else (L : Int)) = (m : Int) := by rw [← hm]; split <;> omega
              have h2m : (if n < L then (n : Int) else (L : Int)) = (m : Int) := by rw [← hm]; split <;> omega
              have hmL : m ≤ L := by rw [← hm]; exact Nat.min_le_right _ _
              have hmc : m ≤ c10 := by have := HL10.out; omega
              have p0 : (0 : Int) ≤ (m : Int) := by omega
              have p1 : (m : Int) ≤ (c10 : Int) := by omega
              have hm64 : m < 64 := by rw [← hm]; exact Nat.lt_of_le_of_lt (Nat.min_le_left _ _) hn
              have C10 := Aside0.mk (Kd.R_reads' DO.out.row).2.2
              have ET := Aside0.mk (show (overL E d).take n = (overL E d).take m from by rw [← hm, ← hL]; exact List.take_eq_take_min)
              have TL := Aside0.mk (show ((overL E d).take m).length = m from by rw [List.length_take, hL]; exact Nat.min_eq_left hmL)
              have CT := Aside0.mk (show Kd.C k47 wR A10 m ((overL E d).take m) from by
                have h := Kd.C_take C10.out (show m ≤ (overL E d).length from by rw [hL]; exact hmL)
                rw [TL.out] at h
                exact h)
              have HN := Aside0.mk hn
              rw [hL]
              clear hm hn C10 HL10
              go_wp2_with (first | (go_at_call 14; fail))
              refine (all_calls (p := ⟨g, g⟩) DO.out.tab DO.out.ris).mono ?_
              rintro e wb ⟨vb, rfl, hRb, hbb⟩
              obtain ⟨Ab, cb, rfl, hlb, hCb⟩ := Kd.R_reads hRb
              have BB := Aside0.mk hbb
              have RB := Aside0.mk hRb
              clear hRb hbb hlb hCb
              go_wp2_with (first | (go_at_call 20; fail))
              refine (Over_calls A7 Ab c7 cb E d n wb (V7.out wb (DO.out.bel.trans (BB.out.mono DO.out.tab.base))) RB.out (Nat.lt_trans HN.out (by decide)) (by have h1 := LE.out; have h2 := DL.out; omega)).mono ?_
              rw [ET.out]
              rintro e wc ⟨vc, rfl, hRc, hbc⟩
              obtain ⟨Ac, cc, rfl, hlc, hCc⟩ := Kd.R_reads hRc
              rw [TL.out] at hlc hCc ⊢
              have BC := Aside0.mk (below_step BB.out hbc)
              have CC := Aside0.mk hCc
              clear hRc hbc hlc hCc RB BB
              have r0 : ((m : Int) == (m : Int)) = true := beq_self_eq_true _
              go_wp2_with (first | (go_at_call 12; fail))
              refine (awake_calls _).mono ?_
              rintro e wd ⟨rfl, hb⟩
              have BD := Aside0.mk (below_step BC.out hb)
              have CD := Aside0.mk (Kd.C_below CC.out hb)
              clear hb CC BC
              obtain ⟨T, hT⟩ : ∃ T, (overL E d).take m = T := ⟨_, rfl⟩
              rw [hT] at CT CD
              clear hT ET TL
              go_wp2
              go_loopw [15] (fun i W => ∃ q : Nat, q ≤ m ∧ i = .int .i64 (q : Int) ∧ Aside0 (Below wd.heap.size wd W)) (fun i _ => m - (intOf i).toNat)
              case atStart => exact ⟨0, Nat.zero_le _, rfl, .mk (Below.refl _ _)⟩
              case round =>
                obtain ⟨q, hq, rfl, HQ⟩ := hrel
                by_cases hin : q < m
                · have s0 : decide ((q : Int) < (m : Int)) = true := decide_eq_true (by omega)
                  have s1 : decide (q < m) = true := decide_eq_true hin
                  have k0 : (0 : Int) ≤ (q : Int) := by omega
                  have k1 : (q : Int) < (m : Int) := by omega
                  have q64 : q + 1 ≤ 64 := by omega
                  obtain ⟨ac, hAc, t0, t1⟩ := at_T47 (Kd.C_below CD.out HQ.out) (q : Int) k0 k1
                  obtain ⟨aw, hAw, z0, z1⟩ := at_T47 (Kd.C_below CT.out (below_step BD.out HQ.out)) (q : Int) k0 k1
                  rw [Int.toNat_natCast] at t0 t1 z0 z1
                  subst hAc hAw
                  obtain ⟨y, hy⟩ : ∃ y, rd_T47 T (q : Int) = y := ⟨_, rfl⟩
                  rw [hy] at t0 t1 z0 z1
                  have v0 : (y.f0.toList == y.f0.toList) = true := beq_self_eq_true _
                  have v1 : (y.f1.toList == y.f1.toList) = true := beq_self_eq_true _
                  clear hy
                  go_wp2
                  first | go_quiet (fail) | go_region
                  go_wp2
                  exact ⟨⟨q + 1, hin, by go_num, .mk (by (with_reducible repeat (first | exact HQ.out | apply pw_below_drewN | apply below_drew1)))⟩, measj hin⟩
                · have s0 : decide ((q : Int) < (m : Int)) = false := decide_eq_false (by omega)
                  have s1 : decide (q < m) = false := decide_eq_false hin
                  have BE := Aside0.mk (BG.out _ (DO.out.bel.trans ((below_step BD.out HQ.out).mono DO.out.tab.base)))
                  go_wp2
                  go_ret
                  exact ⟨rfl, BE.out⟩
end Go.Proofs.Ytdkepbmpcbnkpaa.Dl
