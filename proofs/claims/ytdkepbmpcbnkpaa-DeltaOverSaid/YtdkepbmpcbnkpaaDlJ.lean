/- The law DeltaClones, walked. -/
import Derived.Test.YtdkepbmpcbnkpaaDlI
namespace Go.Proofs.Ytdkepbmpcbnkpaa.Dl
open Go.RowKit Go.Proofs.YtdkepbmpcbnkpaaW.PrintWords Go.Proofs.YtdkepbmpcbnkpaaW.PrintLast Go.Proofs.YtdkepbmpcbnkpaaW.PrintMore Go.Proofs.Ytdkepbmpcbnkpaa.XB Go.Proofs.Ytdkepbmpcbnkpaa.PDeltaPlays
attribute [local go_sem] max2_int min2_int max_two min_two max_three min_three max_four min_four
set_option linter.unusedVariables false
set_option linter.unusedSimpArgs false
variable {w w' : World} {p : At} {rv : Value} {l : List S26}
theorem zz_long (y : ByteArray) : 3 ≤ (⟨#[122, 122, 122]⟩ ++ y : ByteArray).toList.length := by
  rw [toList_data, Array.length_toList]
  show 3 ≤ (⟨#[122, 122, 122]⟩ ++ y : ByteArray).size
  rw [ByteArray.size_append]
  show 3 ≤ 3 + y.size
  omega
theorem measj {j n : Nat} (h : j < n) : n - ((j : Int) + 1).toNat < n - ((j : Int)).toNat := by omega
/-- the law's changes -/
structure Ds (g : Nat) (w1 : World) (j : Nat) (d : List S26) (rv : Value) (W : World) : Prop where
  tab : Ch W ⟨g, g⟩ rv d
  ris : Rises d
  len : d.length ≤ j
  key : ∀ y ∈ d, y.f0.toList.length ≤ 2
  bel : Below g w1 W
set_option maxHeartbeats 40000000 in
set_option maxRecDepth 100000 in
theorem clones_law (A : Option Addr) (c : Nat) (acts : List S26) (x : S26) (w : World) (hC : Kd.C k26 w A acts.length acts) :
    Calls Try.prog 4 #[.slice A acts.length c, .agg #[.string x.f0, .string x.f1, .bool x.f2]] w fun e w' => e = .returned (.bool true) ∧ Below w.heap.size w w' := by
  have HC := Aside0.mk hC
  have b0 := Aside0.mk (below_alloc (Below.refl w.heap.size w) (.cells #[.string x.f0, .string x.f1, .bool x.f2] 26))
  have hbx := heap_alloc_new w (.cells #[.string x.f0, .string x.f1, .bool x.f2] 26)
  have HBX := Aside0.mk hbx
  obtain ⟨y, hy, hy2⟩ := few_ex x
  have EF := Aside0.mk hy
  have EY := Aside0.mk hy2
  have hsz : ¬ 9223372036854775807 < 3 + y.f0.size := by
    have : y.f0.size = y.f0.toList.length := by rw [toList_data, Array.length_toList]; rfl
    omega
  clear hC hbx hy hy2
  go_enter Try.func4, Try.ntmps4
  go_wp2_with (first | (go_at_call 6; fail))
  refine (new_calls _).mono ?_
  rintro e w1 ⟨rfl, hT, hb⟩
  have HT := Aside0.mk hT
  have HB := Aside0.mk (below_step b0.out hb)
  have HX := Aside0.mk (blk_below HBX.out hb)
  clear hT hb HBX b0
  obtain ⟨bx, hbx⟩ : ∃ bx, w.heap.size = bx := ⟨_, rfl⟩
  have EBX := Aside0.mk hbx
  rw [hbx] at HX ⊢
  obtain ⟨g, hg⟩ : ∃ g, (w.alloc (.cells #[.string x.f0, .string x.f1, .bool x.f2] 26)).heap.size = g := ⟨_, rfl⟩
  have EG := Aside0.mk (show g = bx + 1 from by rw [← hg, World.size_alloc, hbx])
  rw [hg] at HT ⊢
  clear hg hbx
  have HBG := Aside0.mk (show Below w.heap.size w w1 from HB.out)
  have BG := Aside0.mk (fun (W : World) (hW : Below g w1 W) => (show Below w.heap.size w W from HB.out.trans (hW.mono (by have := EBX.out; have := EG.out; omega))))
  have XG := Aside0.mk (fun (W : World) (hW : Below g w1 W) => (show W.heap[bx]? = some (.cells #[.string x.f0, .string x.f1, .bool x.f2] 26 (0, 0)) from (hW.block bx (by have := EG.out; omega)).trans HX.out))
  have DD := Aside0.mk (show Ds g w1 0 [] (.slice none 0 0) w1 from ⟨HT.out, rises_nil, Nat.le_refl _, fun y hy => (by cases hy), Below.refl _ _⟩)
  clear HB HX HT HBG
  go_wp2
  go_loopw [6] (fun i w' => ∃ j : Nat, j ≤ acts.length ∧ j ≤ 30 ∧ i = .int .i64 (j : Int) ∧ ∃ d rv, Aside0 (Ds g w1 j d rv w')) (fun i _ => acts.length - (intOf i).toNat)
  case atStart => exact ⟨0, Nat.zero_le _, Nat.zero_le _, rfl, _, _, DD⟩
  case round =>
    clear DD
    obtain ⟨j, hj, hj30, rfl, d, rv, DD⟩ := hrel
    by_cases hlt : j < acts.length ∧ j < 30
    · have q0 : decide ((j : Int) < (acts.length : Int)) = true := decide_eq_true (by omega)
      have q1 : decide (j < acts.length) = true := decide_eq_true hlt.1
      have q2 : decide ((j : Int) < 30) = true := decide_eq_true (by omega)
      have q3 : decide (j < 30) = true := decide_eq_true hlt.2
      have j0 : (0 : Int) ≤ (j : Int) := by omega
      have j1 : (j : Int) < (acts.length : Int) := by omega
      have hlt2 := hlt.1
      have hlt3 : j + 1 ≤ 30 := hlt.2
      obtain ⟨ad, hA, y0, y1, y2⟩ := at_T26 (Kd.C_below HC.out (BG.out _ DD.out.bel)) (j : Int) j0 j1
      rw [Int.toNat_natCast] at y0 y1 y2
      subst hA
      obtain ⟨a, ha⟩ : ∃ a, rd_T26 acts (j : Int) = a := ⟨_, rfl⟩
      rw [ha] at y0 y1 y2
      obtain ⟨u, hu, hu2⟩ := few_ex a
      have EU := Aside0.mk hu
      have EU2 := Aside0.mk hu2
      clear ha hlt hu hu2
      go_wp2_with (first | (go_at_call 7; fail))
      refine (lodestonelaw21_few.calls a.f0 a.f1 a.f2 u.f0 u.f1 u.f2 _ EU.out).mono ?_
      rintro e w5 ⟨rfl, hb⟩
      have HB5 := Aside0.mk hb
      have H5 := Aside0.mk (DD.out.tab.below hb)
      clear hb y0 y1 y2
      go_wp2_with (first | (go_at_call 8; fail))
      refine (put_calls (p := ⟨g, g⟩) H5.out DD.out.ris u (by have := DD.out.len; omega)).mono ?_
      rintro e w6 ⟨rfl, ⟨rv6, hT6⟩, hb6, _⟩
      have DN := Aside0.mk (show Ds g w1 (j + 1) (putL d u) rv6 w6 from ⟨hT6, putL_rises DD.out.ris u, by have := putL_length d u; have := DD.out.len; omega, fun y hy => by
        rcases putL_mem hy with h | rfl
        · exact DD.out.key y h
        · exact EU2.out, DD.out.bel.trans ((HB5.out.mono DD.out.tab.base).trans hb6)⟩)
      clear hT6 hb6 DD H5 HB5
      go_wp2
      exact ⟨⟨j + 1, hlt2, hlt3, by go_num, _, _, DN⟩, measj hlt2⟩
    · have DL := Aside0.mk (show d.length ≤ 30 from Nat.le_trans DD.out.len hj30)
      have qq : ((if j < acts.length then decide (j < 30) else false) = false) := by
        split
        · exact decide_eq_false (by omega)
        · rfl
      by_cases hl1 : j < acts.length
      · have q0 : decide ((j : Int) < (acts.length : Int)) = true := decide_eq_true (by omega)
        have q1 : decide (j < acts.length) = true := decide_eq_true hl1
        have q2 : decide ((j : Int) < 30) = false := decide_eq_false (by omega)
        have q3 : decide (j < 30) = false := decide_eq_false (by omega)
        clear qq
        go_wp2_with (first | (go_at_call 14; fail))
        refine (all_calls (p := ⟨g, g⟩) DD.out.tab DD.out.ris).mono ?_
        rintro e w5 ⟨v7, rfl, hR7, hb7⟩
        obtain ⟨A7, c7, rfl, hl7, _⟩ := Kd.R_reads hR7
        have HL7 := Aside0.mk hl7
        have R7 := Aside0.mk hR7
        have B5 := Aside0.mk (show Below g w1 w5 from DD.out.bel.trans (hb7.mono DD.out.tab.base))
        have H5 := Aside0.mk (DD.out.tab.below hb7)
        clear hR7 hb7 hl7
        go_wp2_with (first | (go_at_call 16; fail))
        refine (copy_calls (p := ⟨g, g⟩) H5.out DD.out.ris).mono ?_
        rintro e w6 ⟨q, rvq, rfl, hK, hb6⟩
        obtain ⟨B2, hB2⟩ : ∃ B2, w5.heap.size = B2 := ⟨_, rfl⟩
        rw [hB2] at hK hb6
        have EB2 := Aside0.mk hB2
        have HK := Aside0.mk hK
        have K56 := Aside0.mk hb6
        clear hK hb6 hB2
        have B6 := Aside0.mk (show Below g w1 w6 from B5.out.trans (K56.out.mono (by rw [← EB2.out]; exact H5.out.base)))
        have RD := Aside0.mk DD.out.ris
        have KD := Aside0.mk DD.out.key
        have GB := Aside0.mk (show g < B2 from by rw [← EB2.out]; exact blk_lt H5.out.cells)
        have SK := Aside0.mk (show d.length + 1 < 1000 by have := DL.out; omega)
        have hbx6 := XG.out _ B6.out
        have b0 : w6.cell? ⟨bx, 0, none⟩ = some (.string x.f0) := blk_cell hbx6 0
        have b1 : w6.cell? ⟨bx, 1, none⟩ = some (.string x.f1) := blk_cell hbx6 1
        have b2 : w6.cell? ⟨bx, 2, none⟩ = some (.bool x.f2) := blk_cell hbx6 2
        clear hbx6 DD
        go_wp2
        refine start_ (n := 9) (S := fun w' => w'.cell? ⟨bx, 0, none⟩ = some (.string x.f0) ∧ w'.cell? ⟨bx, 1, none⟩ = some (.string x.f1) ∧ w'.cell? ⟨bx, 2, none⟩ = some (.bool x.f2)) (ds := [8]) #[false, false, false, false, false, false, false, false, false] (by kernel_rfl) rfl rfl ⟨cell_dr b0, cell_dr b1, cell_dr b2⟩ (fun hHeld => ?_)
        refine pure_ (i := 0) (N := some 34) (v := ?_) (a' := ?_) #[true, false, false, false, false, false, false, false, false] rfl rfl (by kernel_rfl) (fun _ _ _ h => h) (Or.inl ⟨by rfl, ?_⟩) ?_ ?_
        rotate_left
        · intro w'
          go_simp
          with_reducible rfl
        rotate_left
        · simp only [Act.put, List.setIfInBounds_toArray, List.set_cons_zero, List.set_cons_succ, i64_w, i32_w]
          rfl
        refine pure_ (i := 5) (N := some 39) (v := ?_) (a' := ?_) #[true, false, false, false, false, true, false, false, false] rfl rfl (by kernel_rfl) (fun _ _ _ h => h) (Or.inl ⟨by rfl, ?_⟩) ?_ ?_
        rotate_left
        · intro w'
          go_simp
          with_reducible rfl
        rotate_left
        · simp only [Act.put, List.setIfInBounds_toArray, List.set_cons_zero, List.set_cons_succ, i64_w, i32_w]
          rfl
        refine take_ (i := 1) (N := some 35) (v := ?_) (a' := ?_) #[true, true, false, false, false, true, false, false, false] rfl rfl (by kernel_rfl) (fun _ _ _ h => h) (Or.inl ⟨by rfl, ?_⟩) hHeld ?_ ?_
        rotate_left
        · rintro w' ⟨s0, s1, s2⟩
          go_simp
          with_reducible rfl
        rotate_left
        · simp only [Act.put, List.setIfInBounds_toArray, List.set_cons_zero, List.set_cons_succ, i64_w, i32_w]
          rfl
        refine take_ (i := 6) (N := some 40) (v := ?_) (a' := ?_) #[true, true, false, false, false, true, true, false, false] rfl rfl (by kernel_rfl) (fun _ _ _ h => h) (Or.inl ⟨by rfl, ?_⟩) hHeld ?_ ?_
        rotate_left
        · rintro w' ⟨s0, s1, s2⟩
          go_simp
          with_reducible rfl
        rotate_left
        · simp only [Act.put, List.setIfInBounds_toArray, List.set_cons_zero, List.set_cons_succ, i64_w, i32_w]
          rfl
        refine one_ (i := 2) (N := some 36) #[true, true, true, false, false, true, true, false, false] rfl rfl (by kernel_rfl) (by decide) (fun K hK => ?_)
        refine goes_ Try.func7 (by kernel_rfl) rfl #[.agg #[.string x.f0, .string x.f1, .bool x.f2]] (by rfl) rfl rfl (by simp only [List.map_toArray, List.map_cons, List.map_nil]; rfl) ?_
        with_reducible refine (lodestonelaw21_few.calls x.f0 x.f1 x.f2 y.f0 y.f1 y.f2 _ EF.out).mono ?_
        rintro e w8 ⟨rfl, hb8⟩
        refine ⟨_, rfl, ?_⟩
        refine hK.out _ _ ⟨pw_cell_below hb8 hHeld.1, pw_cell_below hb8 hHeld.2.1, pw_cell_below hb8 hHeld.2.2⟩ (fun hHeld => ?_)
        clear hK K
        refine norm_ (a' := ?_) ?_ ?_
        rotate_left
        · show Act.put _ (some 36) _ = _
          simp only [Act.put, List.setIfInBounds_toArray, List.set_cons_zero, List.set_cons_succ, i64_w, i32_w]
          rfl
        refine pure_ (i := 3) (N := some 37) (v := ?_) (a' := ?_) #[true, true, true, true, false, true, true, false, false] rfl rfl (by kernel_rfl) (fun _ _ _ h => h) (Or.inl ⟨by rfl, ?_⟩) ?_ ?_
        rotate_left
        · intro w'
          have hf_ : (Instr.field 26 (.agg #[.string y.f0, .string y.f1, .bool y.f2]) 0).run Try.prog w' = .ok (.string y.f0) w' := by kernel_rfl
          go_simp
          with_reducible rfl
        rotate_left
        · simp only [Act.put, List.setIfInBounds_toArray, List.set_cons_zero, List.set_cons_succ, i64_w, i32_w]
          rfl
        refine pure_ (i := 4) (N := some 38) (v := ?_) (a' := ?_) #[true, true, true, true, true, true, true, false, false] rfl rfl (by kernel_rfl) (fun _ _ _ h => h) (Or.inl ⟨by rfl, ?_⟩) ?_ ?_
        rotate_left
        · intro w'
          go_simp
          with_reducible rfl
        rotate_left
        · simp only [Act.put, List.setIfInBounds_toArray, List.set_cons_zero, List.set_cons_succ, i64_w, i32_w]
          rfl
        refine pure_ (i := 7) (N := some 41) (v := ?_) (a' := ?_) #[true, true, true, true, true, true, true, true, false] rfl rfl (by kernel_rfl) (fun _ _ _ h => h) (Or.inl ⟨by rfl, ?_⟩) ?_ ?_
        rotate_left
        · intro w'
          go_simp
          with_reducible rfl
        rotate_left
        · simp only [Act.put, List.setIfInBounds_toArray, List.set_cons_zero, List.set_cons_succ, i64_w, i32_w]
          rfl
        refine last_ (i := 8) (N := some 42) #[true, true, true, true, true, true, true, true, true] rfl rfl (by kernel_rfl) (by decide) (fun K hK => ?_)
        refine goes_ Try.func8 (by kernel_rfl) rfl #[.pointer (some ⟨q, 0, none⟩), .agg #[.string (⟨#[122, 122, 122]⟩ ++ y.f0), .string x.f1, .bool false]] (by rfl) rfl rfl (by simp only [List.map_toArray, List.map_cons, List.map_nil]; rfl) ?_
        with_reducible refine (put_calls (p := ⟨q, B2⟩) (HK.out.below (below_step (below_drew1 (Below.refl _ _)) hb8)) RD.out ⟨⟨#[122, 122, 122]⟩ ++ y.f0, x.f1, false⟩ SK.out).mono ?_
        rintro e w9 ⟨rfl, ⟨rvk, hTk⟩, hbk, hFk⟩
        refine ⟨_, rfl, ?_⟩
        refine hK.out _ _ ?_
        clear hK K
        refine norm_ (a' := ?_) ?_ ?_
        rotate_left
        · show Act.put _ (some 42) _ = _
          simp only [Act.put, List.setIfInBounds_toArray, List.set_cons_zero, List.set_cons_succ, i64_w, i32_w]
          rfl
        refine done_ (by kernel_rfl) ?_
        have K69 := Aside0.mk (show Below B2 w6 w9 from ((below_step (below_drew1 (Below.refl _ _)) hb8).mono HK.out.base).trans hbk)
        have HK9 := Aside0.mk hTk
        have K59 := Aside0.mk (show Below w5.heap.size w5 w9 from by rw [EB2.out]; exact K56.out.trans K69.out)
        have H9 := Aside0.mk (H5.out.below K59.out)
        have R9 := Aside0.mk (Kd.R_below R7.out K59.out)
        have B9 := Aside0.mk (show Below g w1 w9 from B5.out.trans (K59.out.mono H5.out.base))
        have LK := Aside0.mk (show (putL d ⟨⟨#[122, 122, 122]⟩ ++ y.f0, x.f1, false⟩).length = d.length + 1 from putL_new (fun e => by have := zz_long y.f0; rw [e] at this; exact absurd this (by decide)) (fun z hz e => by have h1 := KD.out z hz; have h2 := zz_long y.f0; rw [e] at h1; exact absurd (Nat.le_trans h2 h1) (by decide)))
        clear hHeld hb8 hTk hbk hFk b0 b1 b2 HK H5 R7 K56 K69
        go_wp2_with (first | (go_at_call 12; fail))
        refine (awake_calls _).mono ?_
        rintro e wa ⟨rfl, hb⟩
        have Ba := Aside0.mk hb
        clear hb
        go_wp2_with (first | (go_at_call 14; fail))
        refine (all_calls (p := ⟨g, g⟩) (H9.out.below Ba.out) RD.out).mono ?_
        rintro e wb ⟨vb, rfl, hRb, hbb⟩
        obtain ⟨Ab, cb, rfl, hlb, hCb⟩ := Kd.R_reads hRb
        have Bb := Aside0.mk (below_step Ba.out hbb)
        have LB := Aside0.mk hlb
        have CB := Aside0.mk hCb
        clear hRb hbb hlb hCb
        go_wp2_with (first | (go_at_call 13; fail))
        refine (same_calls Ab A7 cb c7 d wb CB.out LB.out (Kd.C_below (Kd.R_reads' R9.out).2.2 Bb.out) HL7.out (Nat.lt_trans (Nat.lt_succ_self _) (Nat.lt_trans SK.out (by decide)))).mono ?_
        rintro e wc ⟨rfl, hb⟩
        have Bc := Aside0.mk (below_step Bb.out hb)
        clear hb
        go_wp2_with (first | (go_at_call 11; fail))
        refine (len_calls (p := ⟨q, B2⟩) (HK9.out.below Bc.out)).mono ?_
        rw [LK.out]
        rintro e wd ⟨rfl, hb⟩
        have Bd := Aside0.mk (below_step Bc.out hb)
        have e1 : wrap64 ((d.length : Int) + 1) = ((d.length + 1 : Nat) : Int) := by have := SK.out; rw [w64 (by omega) (by omega)]; omega
        have e2 : (((d.length + 1 : Nat) : Int) == ((d.length + 1 : Nat) : Int)) = true := beq_self_eq_true _
        clear hb
        go_wp2_with (first | (go_at_call 17; fail))
        have HKd := Aside0.mk (HK9.out.below Bd.out)
        refine (clear_calls (p := ⟨g, g⟩) (H9.out.below Bd.out)).mono ?_
        rintro e wf ⟨rfl, hTf, hbf, hFf⟩
        have B_f := Aside0.mk (show Below g w1 wf from (B9.out.trans (Bd.out.mono H9.out.base)).trans hbf)
        have HF := Aside0.mk (show Ch wf ⟨q, B2⟩ rvk (putL d ⟨⟨#[122, 122, 122]⟩ ++ y.f0, x.f1, false⟩) from ⟨(hFf q (blk_lt HKd.out.cells) (by have h1 : B2 ≤ q := HKd.out.bg; have := GB.out; show q ≠ g; omega) (by simp)).trans HKd.out.cells, Kd.R_mono (Kd.R_step (Kd.R_bound HKd.out.row) (fun k hk hl => hFf k hl (by have h1 : B2 ≤ k := hk.2.1; have := GB.out; show k ≠ g; omega) (by simp))) (fun k hk => hk.1), HKd.out.bg, HKd.out.small⟩)
        have DF := Aside0.mk hTf
        have hbxf := XG.out _ B_f.out
        have b0 : wf.cell? ⟨bx, 0, none⟩ = some (.string x.f0) := blk_cell hbxf 0
        have b1 : wf.cell? ⟨bx, 1, none⟩ = some (.string x.f1) := blk_cell hbxf 1
        have b2 : wf.cell? ⟨bx, 2, none⟩ = some (.bool x.f2) := blk_cell hbxf 2
        clear HKd hTf hbf hFf hbxf HK9 H9 R9 B9 Ba Bb Bc Bd B5 B6
        go_wp2_with (first | (go_at_call 8; fail))
        refine (put_nil x _).mono ?_
        rintro e wg ⟨rfl, hb⟩
        have Bg := Aside0.mk hb
        clear hb b0 b1 b2
        go_wp2_with (first | (go_at_call 17; fail))
        refine (clear_nil _).mono ?_
        rintro e wh ⟨rfl, hb⟩
        have Bh := Aside0.mk (below_step Bg.out hb)
        have hbxh := XG.out _ (B_f.out.trans (Bh.out.mono DF.out.base))
        have b0 : wh.cell? ⟨bx, 0, none⟩ = some (.string x.f0) := blk_cell hbxh 0
        clear hb hbxh
        go_wp2_with (first | (go_at_call 10; fail))
        refine (get_nil _ _).mono ?_
        rintro e wi ⟨rfl, hb⟩
        have Bi := Aside0.mk (below_step Bh.out hb)
        clear hb b0
        go_wp2_with (first | (go_at_call 11; fail))
        have Bk := Aside0.mk (below_alloc Bi.out (.cells #[.string ⟨#[]⟩, .string ⟨#[]⟩, .bool false] 26))
        refine (len_zero (p := ⟨g, g⟩) (DF.out.below Bk.out)).mono ?_
        rintro e wj ⟨rfl, hb⟩
        have Bj := Aside0.mk (below_step Bk.out hb)
        clear hb
        go_wp2_with (first | (go_at_call 11; fail))
        refine (len_calls (p := ⟨q, B2⟩) (HF.out.below Bj.out)).mono ?_
        rw [LK.out]
        rintro e wk ⟨rfl, hb⟩
        have Bl := Aside0.mk (below_step Bj.out hb)
        clear hb
        go_wp2_with (first | (go_at_call 11; fail))
        refine (len_nil _).mono ?_
        rintro e wl ⟨rfl, hb⟩
        have Bm := Aside0.mk (below_step Bl.out hb)
        clear hb
        go_wp2_with (first | (go_at_call 14; fail))
        refine (all_nil _).mono ?_
        rintro e wm ⟨rfl, hb⟩
        have Bn := Aside0.mk (below_step Bm.out hb)
        clear hb
        go_wp2_with (first | (go_at_call 16; fail))
        refine (copy_nil _).mono ?_
        rintro e wn ⟨q2, rv2, rfl, hK, hb⟩
        have Bo := Aside0.mk (below_step Bn.out hb)
        have HN := Aside0.mk hK
        clear hb hK
        go_wp2_with (first | (go_at_call 11; fail))
        refine (len_zero HN.out).mono ?_
        rintro e wo ⟨rfl, hb⟩
        have Bp := Aside0.mk (BG.out _ (B_f.out.trans ((below_step Bo.out hb).mono DF.out.base)))
        clear hb
        go_wp2
        go_ret
        exact ⟨rfl, Bp.out⟩
      · have q0 : decide ((j : Int) < (acts.length : Int)) = false := decide_eq_false (by omega)
        have q1 : decide (j < acts.length) = false := decide_eq_false hl1
        clear qq
        go_wp2_with (first | (go_at_call 14; fail))
        refine (all_calls (p := ⟨g, g⟩) DD.out.tab DD.out.ris).mono ?_
        rintro e w5 ⟨v7, rfl, hR7, hb7⟩
        obtain ⟨A7, c7, rfl, hl7, _⟩ := Kd.R_reads hR7
        have HL7 := Aside0.mk hl7
        have R7 := Aside0.mk hR7
        have B5 := Aside0.mk (show Below g w1 w5 from DD.out.bel.trans (hb7.mono DD.out.tab.base))
        have H5 := Aside0.mk (DD.out.tab.below hb7)
        clear hR7 hb7 hl7
        go_wp2_with (first | (go_at_call 16; fail))
        refine (copy_calls (p := ⟨g, g⟩) H5.out DD.out.ris).mono ?_
        rintro e w6 ⟨q, rvq, rfl, hK, hb6⟩
        obtain ⟨B2, hB2⟩ : ∃ B2, w5.heap.size = B2 := ⟨_, rfl⟩
        rw [hB2] at hK hb6
        have EB2 := Aside0.mk hB2
        have HK := Aside0.mk hK
        have K56 := Aside0.mk hb6
        clear hK hb6 hB2
        have B6 := Aside0.mk (show Below g w1 w6 from B5.out.trans (K56.out.mono (by rw [← EB2.out]; exact H5.out.base)))
        have RD := Aside0.mk DD.out.ris
        have KD := Aside0.mk DD.out.key
        have GB := Aside0.mk (show g < B2 from by rw [← EB2.out]; exact blk_lt H5.out.cells)
        have SK := Aside0.mk (show d.length + 1 < 1000 by have := DL.out; omega)
        have hbx6 := XG.out _ B6.out
        have b0 : w6.cell? ⟨bx, 0, none⟩ = some (.string x.f0) := blk_cell hbx6 0
        have b1 : w6.cell? ⟨bx, 1, none⟩ = some (.string x.f1) := blk_cell hbx6 1
        have b2 : w6.cell? ⟨bx, 2, none⟩ = some (.bool x.f2) := blk_cell hbx6 2
        clear hbx6 DD
        go_wp2
        refine start_ (n := 9) (S := fun w' => w'.cell? ⟨bx, 0, none⟩ = some (.string x.f0) ∧ w'.cell? ⟨bx, 1, none⟩ = some (.string x.f1) ∧ w'.cell? ⟨bx, 2, none⟩ = some (.bool x.f2)) (ds := [8]) #[false, false, false, false, false, false, false, false, false] (by kernel_rfl) rfl rfl ⟨cell_dr b0, cell_dr b1, cell_dr b2⟩ (fun hHeld => ?_)
        refine pure_ (i := 0) (N := some 34) (v := ?_) (a' := ?_) #[true, false, false, false, false, false, false, false, false] rfl rfl (by kernel_rfl) (fun _ _ _ h => h) (Or.inl ⟨by rfl, ?_⟩) ?_ ?_
        rotate_left
        · intro w'
          go_simp
          with_reducible rfl
        rotate_left
        · simp only [Act.put, List.setIfInBounds_toArray, List.set_cons_zero, List.set_cons_succ, i64_w, i32_w]
          rfl
        refine pure_ (i := 5) (N := some 39) (v := ?_) (a' := ?_) #[true, false, false, false, false, true, false, false, false] rfl rfl (by kernel_rfl) (fun _ _ _ h => h) (Or.inl ⟨by rfl, ?_⟩) ?_ ?_
        rotate_left
        · intro w'
          go_simp
          with_reducible rfl
        rotate_left
        · simp only [Act.put, List.setIfInBounds_toArray, List.set_cons_zero, List.set_cons_succ, i64_w, i32_w]
          rfl
        refine take_ (i := 1) (N := some 35) (v := ?_) (a' := ?_) #[true, true, false, false, false, true, false, false, false] rfl rfl (by kernel_rfl) (fun _ _ _ h => h) (Or.inl ⟨by rfl, ?_⟩) hHeld ?_ ?_
        rotate_left
        · rintro w' ⟨s0, s1, s2⟩
          go_simp
          with_reducible rfl
        rotate_left
        · simp only [Act.put, List.setIfInBounds_toArray, List.set_cons_zero, List.set_cons_succ, i64_w, i32_w]
          rfl
        refine take_ (i := 6) (N := some 40) (v := ?_) (a' := ?_) #[true, true, false, false, false, true, true, false, false] rfl rfl (by kernel_rfl) (fun _ _ _ h => h) (Or.inl ⟨by rfl, ?_⟩) hHeld ?_ ?_
        rotate_left
        · rintro w' ⟨s0, s1, s2⟩
          go_simp
          with_reducible rfl
        rotate_left
        · simp only [Act.put, List.setIfInBounds_toArray, List.set_cons_zero, List.set_cons_succ, i64_w, i32_w]
          rfl
        refine one_ (i := 2) (N := some 36) #[true, true, true, false, false, true, true, false, false] rfl rfl (by kernel_rfl) (by decide) (fun K hK => ?_)
        refine goes_ Try.func7 (by kernel_rfl) rfl #[.agg #[.string x.f0, .string x.f1, .bool x.f2]] (by rfl) rfl rfl (by simp only [List.map_toArray, List.map_cons, List.map_nil]; rfl) ?_
        with_reducible refine (lodestonelaw21_few.calls x.f0 x.f1 x.f2 y.f0 y.f1 y.f2 _ EF.out).mono ?_
        rintro e w8 ⟨rfl, hb8⟩
        refine ⟨_, rfl, ?_⟩
        refine hK.out _ _ ⟨pw_cell_below hb8 hHeld.1, pw_cell_below hb8 hHeld.2.1, pw_cell_below hb8 hHeld.2.2⟩ (fun hHeld => ?_)
        clear hK K
        refine norm_ (a' := ?_) ?_ ?_
        rotate_left
        · show Act.put _ (some 36) _ = _
          simp only [Act.put, List.setIfInBounds_toArray, List.set_cons_zero, List.set_cons_succ, i64_w, i32_w]
          rfl
        refine pure_ (i := 3) (N := some 37) (v := ?_) (a' := ?_) #[true, true, true, true, false, true, true, false, false] rfl rfl (by kernel_rfl) (fun _ _ _ h => h) (Or.inl ⟨by rfl, ?_⟩) ?_ ?_
        rotate_left
        · intro w'
          have hf_ : (Instr.field 26 (.agg #[.string y.f0, .string y.f1, .bool y.f2]) 0).run Try.prog w' = .ok (.string y.f0) w' := by kernel_rfl
          go_simp
          with_reducible rfl
        rotate_left
        · simp only [Act.put, List.setIfInBounds_toArray, List.set_cons_zero, List.set_cons_succ, i64_w, i32_w]
          rfl
        refine pure_ (i := 4) (N := some 38) (v := ?_) (a' := ?_) #[true, true, true, true, true, true, true, false, false] rfl rfl (by kernel_rfl) (fun _ _ _ h => h) (Or.inl ⟨by rfl, ?_⟩) ?_ ?_
        rotate_left
        · intro w'
          go_simp
          with_reducible rfl
        rotate_left
        · simp only [Act.put, List.setIfInBounds_toArray, List.set_cons_zero, List.set_cons_succ, i64_w, i32_w]
          rfl
        refine pure_ (i := 7) (N := some 41) (v := ?_) (a' := ?_) #[true, true, true, true, true, true, true, true, false] rfl rfl (by kernel_rfl) (fun _ _ _ h => h) (Or.inl ⟨by rfl, ?_⟩) ?_ ?_
        rotate_left
        · intro w'
          go_simp
          with_reducible rfl
        rotate_left
        · simp only [Act.put, List.setIfInBounds_toArray, List.set_cons_zero, List.set_cons_succ, i64_w, i32_w]
          rfl
        refine last_ (i := 8) (N := some 42) #[true, true, true, true, true, true, true, true, true] rfl rfl (by kernel_rfl) (by decide) (fun K hK => ?_)
        refine goes_ Try.func8 (by kernel_rfl) rfl #[.pointer (some ⟨q, 0, none⟩), .agg #[.string (⟨#[122, 122, 122]⟩ ++ y.f0), .string x.f1, .bool false]] (by rfl) rfl rfl (by simp only [List.map_toArray, List.map_cons, List.map_nil]; rfl) ?_
        with_reducible refine (put_calls (p := ⟨q, B2⟩) (HK.out.below (below_step (below_drew1 (Below.refl _ _)) hb8)) RD.out ⟨⟨#[122, 122, 122]⟩ ++ y.f0, x.f1, false⟩ SK.out).mono ?_
        rintro e w9 ⟨rfl, ⟨rvk, hTk⟩, hbk, hFk⟩
        refine ⟨_, rfl, ?_⟩
        refine hK.out _ _ ?_
        clear hK K
        refine norm_ (a' := ?_) ?_ ?_
        rotate_left
        · show Act.put _ (some 42) _ = _
          simp only [Act.put, List.setIfInBounds_toArray, List.set_cons_zero, List.set_cons_succ, i64_w, i32_w]
          rfl
        refine done_ (by kernel_rfl) ?_
        have K69 := Aside0.mk (show Below B2 w6 w9 from ((below_step (below_drew1 (Below.refl _ _)) hb8).mono HK.out.base).trans hbk)
        have HK9 := Aside0.mk hTk
        have K59 := Aside0.mk (show Below w5.heap.size w5 w9 from by rw [EB2.out]; exact K56.out.trans K69.out)
        have H9 := Aside0.mk (H5.out.below K59.out)
        have R9 := Aside0.mk (Kd.R_below R7.out K59.out)
        have B9 := Aside0.mk (show Below g w1 w9 from B5.out.trans (K59.out.mono H5.out.base))
        have LK := Aside0.mk (show (putL d ⟨⟨#[122, 122, 122]⟩ ++ y.f0, x.f1, false⟩).length = d.length + 1 from putL_new (fun e => by have := zz_long y.f0; rw [e] at this; exact absurd this (by decide)) (fun z hz e => by have h1 := KD.out z hz; have h2 := zz_long y.f0; rw [e] at h1; exact absurd (Nat.le_trans h2 h1) (by decide)))
        clear hHeld hb8 hTk hbk hFk b0 b1 b2 HK H5 R7 K56 K69
        go_wp2_with (first | (go_at_call 12; fail))
        refine (awake_calls _).mono ?_
        rintro e wa ⟨rfl, hb⟩
        have Ba := Aside0.mk hb
        clear hb
        go_wp2_with (first | (go_at_call 14; fail))
        refine (all_calls (p := ⟨g, g⟩) (H9.out.below Ba.out) RD.out).mono ?_
        rintro e wb ⟨vb, rfl, hRb, hbb⟩
        obtain ⟨Ab, cb, rfl, hlb, hCb⟩ := Kd.R_reads hRb
        have Bb := Aside0.mk (below_step Ba.out hbb)
        have LB := Aside0.mk hlb
        have CB := Aside0.mk hCb
        clear hRb hbb hlb hCb
        go_wp2_with (first | (go_at_call 13; fail))
        refine (same_calls Ab A7 cb c7 d wb CB.out LB.out (Kd.C_below (Kd.R_reads' R9.out).2.2 Bb.out) HL7.out (Nat.lt_trans (Nat.lt_succ_self _) (Nat.lt_trans SK.out (by decide)))).mono ?_
        rintro e wc ⟨rfl, hb⟩
        have Bc := Aside0.mk (below_step Bb.out hb)
        clear hb
        go_wp2_with (first | (go_at_call 11; fail))
        refine (len_calls (p := ⟨q, B2⟩) (HK9.out.below Bc.out)).mono ?_
        rw [LK.out]
        rintro e wd ⟨rfl, hb⟩
        have Bd := Aside0.mk (below_step Bc.out hb)
        have e1 : wrap64 ((d.length : Int) + 1) = ((d.length + 1 : Nat) : Int) := by have := SK.out; rw [w64 (by omega) (by omega)]; omega
        have e2 : (((d.length + 1 : Nat) : Int) == ((d.length + 1 : Nat) : Int)) = true := beq_self_eq_true _
        clear hb
        go_wp2_with (first | (go_at_call 17; fail))
        have HKd := Aside0.mk (HK9.out.below Bd.out)
        refine (clear_calls (p := ⟨g, g⟩) (H9.out.below Bd.out)).mono ?_
        rintro e wf ⟨rfl, hTf, hbf, hFf⟩
        have B_f := Aside0.mk (show Below g w1 wf from (B9.out.trans (Bd.out.mono H9.out.base)).trans hbf)
        have HF := Aside0.mk (show Ch wf ⟨q, B2⟩ rvk (putL d ⟨⟨#[122, 122, 122]⟩ ++ y.f0, x.f1, false⟩) from ⟨(hFf q (blk_lt HKd.out.cells) (by have h1 : B2 ≤ q := HKd.out.bg; have := GB.out; show q ≠ g; omega) (by simp)).trans HKd.out.cells, Kd.R_mono (Kd.R_step (Kd.R_bound HKd.out.row) (fun k hk hl => hFf k hl (by have h1 : B2 ≤ k := hk.2.1; have := GB.out; show k ≠ g; omega) (by simp))) (fun k hk => hk.1), HKd.out.bg, HKd.out.small⟩)
        have DF := Aside0.mk hTf
        have hbxf := XG.out _ B_f.out
        have b0 : wf.cell? ⟨bx, 0, none⟩ = some (.string x.f0) := blk_cell hbxf 0
        have b1 : wf.cell? ⟨bx, 1, none⟩ = some (.string x.f1) := blk_cell hbxf 1
        have b2 : wf.cell? ⟨bx, 2, none⟩ = some (.bool x.f2) := blk_cell hbxf 2
        clear HKd hTf hbf hFf hbxf HK9 H9 R9 B9 Ba Bb Bc Bd B5 B6
        go_wp2_with (first | (go_at_call 8; fail))
        refine (put_nil x _).mono ?_
        rintro e wg ⟨rfl, hb⟩
        have Bg := Aside0.mk hb
        clear hb b0 b1 b2
        go_wp2_with (first | (go_at_call 17; fail))
        refine (clear_nil _).mono ?_
        rintro e wh ⟨rfl, hb⟩
        have Bh := Aside0.mk (below_step Bg.out hb)
        have hbxh := XG.out _ (B_f.out.trans (Bh.out.mono DF.out.base))
        have b0 : wh.cell? ⟨bx, 0, none⟩ = some (.string x.f0) := blk_cell hbxh 0
        clear hb hbxh
        go_wp2_with (first | (go_at_call 10; fail))
        refine (get_nil _ _).mono ?_
        rintro e wi ⟨rfl, hb⟩
        have Bi := Aside0.mk (below_step Bh.out hb)
        clear hb b0
        go_wp2_with (first | (go_at_call 11; fail))
        have Bk := Aside0.mk (below_alloc Bi.out (.cells #[.string ⟨#[]⟩, .string ⟨#[]⟩, .bool false] 26))
        refine (len_zero (p := ⟨g, g⟩) (DF.out.below Bk.out)).mono ?_
        rintro e wj ⟨rfl, hb⟩
        have Bj := Aside0.mk (below_step Bk.out hb)
        clear hb
        go_wp2_with (first | (go_at_call 11; fail))
        refine (len_calls (p := ⟨q, B2⟩) (HF.out.below Bj.out)).mono ?_
        rw [LK.out]
        rintro e wk ⟨rfl, hb⟩
        have Bl := Aside0.mk (below_step Bj.out hb)
        clear hb
        go_wp2_with (first | (go_at_call 11; fail))
        refine (len_nil _).mono ?_
        rintro e wl ⟨rfl, hb⟩
        have Bm := Aside0.mk (below_step Bl.out hb)
        clear hb
        go_wp2_with (first | (go_at_call 14; fail))
        refine (all_nil _).mono ?_
        rintro e wm ⟨rfl, hb⟩
        have Bn := Aside0.mk (below_step Bm.out hb)
        clear hb
        go_wp2_with (first | (go_at_call 16; fail))
        refine (copy_nil _).mono ?_
        rintro e wn ⟨q2, rv2, rfl, hK, hb⟩
        have Bo := Aside0.mk (below_step Bn.out hb)
        have HN := Aside0.mk hK
        clear hb hK
        go_wp2_with (first | (go_at_call 11; fail))
        refine (len_zero HN.out).mono ?_
        rintro e wo ⟨rfl, hb⟩
        have Bp := Aside0.mk (BG.out _ (B_f.out.trans ((below_step Bo.out hb).mono DF.out.base)))
        clear hb
        go_wp2
        go_ret
        exact ⟨rfl, Bp.out⟩
end Go.Proofs.Ytdkepbmpcbnkpaa.Dl
