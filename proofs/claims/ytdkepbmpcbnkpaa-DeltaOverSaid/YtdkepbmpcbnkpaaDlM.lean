/- The law DeltaPlays, walked. -/
import Derived.Test.YtdkepbmpcbnkpaaDlL
import Derived.Test.YtdkepbmpcbnkpaaDlJ
namespace Go.Proofs.Ytdkepbmpcbnkpaa.Dl
open Go.RowKit Go.Proofs.YtdkepbmpcbnkpaaW.PrintWords Go.Proofs.YtdkepbmpcbnkpaaW.PrintLast Go.Proofs.YtdkepbmpcbnkpaaW.PrintMore Go.Proofs.Ytdkepbmpcbnkpaa.XB Go.Proofs.Ytdkepbmpcbnkpaa.PDeltaPlays
attribute [local go_sem] max2_int min2_int max_two min_two max_three min_three max_four min_four
attribute [local go_sem high] eqA26
set_option linter.unusedVariables false
set_option linter.unusedSimpArgs false
variable {w w' : World} {p : At} {rv : Value} {l : List S26}
/-- changes of rising keys, as they are and as they were put by hand -/
structure Dp (g : Nat) (w0 : World) (j : Nat) (d : List S26) (rv v8 : Value) (W : World) : Prop where
  tab : Ch W ⟨g, g⟩ rv d
  row : Kd.R k26 26 W g (fun k => k ≠ g ∧ some k ≠ rv.ownBlock) v8 d
  ris : Rises d
  len : d.length ≤ j
  nek : ∀ y ∈ d, y.f0.toList ≠ []
  bel : Below g w0 W
theorem get_put {x : S26} (h : Ch w p rv (putL l x)) (hl : Rises l) (hx : x.f0.toList ≠ []) :
    Calls Try.prog 10 #[.pointer (some ⟨p.g, 0, none⟩), .string x.f0] w fun e w' => e = .returned (.tuple #[.agg #[.string x.f0, .string x.f1, .bool x.f2], .bool true]) ∧ Below w.heap.size w w' := by
  have h1 := get_calls h (putL_rises hl x) x.f0
  rw [getL_put hl x hx] at h1
  exact h1
theorem get_none (h : Ch w p rv l) (hl : Rises l) (key : ByteArray) (hn : ∀ y ∈ l, y.f0.toList ≠ key.toList) :
    Calls Try.prog 10 #[.pointer (some ⟨p.g, 0, none⟩), .string key] w fun e w' => e = .returned (.tuple #[.agg #[.string ⟨#[]⟩, .string ⟨#[]⟩, .bool false], .bool false]) ∧ Below w.heap.size w w' := by
  have h1 := get_calls h hl key
  rw [getL_none l key hn] at h1
  exact h1
set_option maxHeartbeats 40000000 in
set_option maxRecDepth 100000 in
theorem plays_law (A : Option Addr) (c : Nat) (acts : List S26) (f t : ByteArray) (w : World) (hC : Kd.C k26 w A acts.length acts) :
    Calls Try.prog 3 #[.slice A acts.length c, .string f, .string t] w fun e w' => e = .returned (.bool true) ∧ Below w.heap.size w w' := by
  have HC := Aside0.mk hC
  clear hC
  go_enter Try.func3, Try.ntmps3
  go_wp2_with (first | (go_at_call 6; fail))
  refine (new_calls _).mono ?_
  rintro e w0 ⟨rfl, hT, hb⟩
  obtain ⟨g, hg⟩ : ∃ g, w.heap.size = g := ⟨_, rfl⟩
  rw [hg] at hT hb ⊢
  have EG := Aside0.mk hg
  have HT := Aside0.mk hT
  have GW := Aside0.mk (show g < w0.heap.size from blk_lt hT.cells)
  have BG := Aside0.mk (fun (W : World) (hW : Below g w0 W) => (show Below w.heap.size w W from by rw [EG.out]; exact hb.trans hW))
  clear hT hb hg
  go_wp2_with (first | ((with_reducible refine gate_dst (N := 16) rfl ?_); refine Kd.R_lit k26 w0.heap.size 26 ?hg (N := 16) ?hd (xs := ([] : List S26)) (inner := []) (ok := fun _ => True) (okp := fun _ => True) ?hr ?hp (fun _ hk => hk) trivial (Below.refl _ _) (Nat.le_refl _) (by simp) ?_; (case hd => rfl); (case hg => rfl); (case hr => first | (go_simp; done) | (go_simp; rfl)); (case hp => exact (Reps.none _ _)); intro v8 w1 ho hb hg_ hn_; clear hg_ hn_))
  have DP := Aside0.mk (show Dp g w0 0 [] (.slice none 0 0) v8 w1 from ⟨HT.out.below hb, Kd.R_lower (Kd.R_mono (Kd.R_bound ho) (fun k hk => ⟨by have h1 := hk.2.1; have := GW.out; omega, by simp [Value.ownBlock]⟩)) (Nat.le_of_lt GW.out), rises_nil, Nat.le_refl _, fun y hy => (by cases hy), hb.mono (Nat.le_of_lt GW.out)⟩)
  clear ho hb HT
  go_wp2
  go_loopw [8, 9] (fun v8 i w' => ∃ j : Nat, j ≤ acts.length ∧ j ≤ 60 ∧ i = .int .i64 (j : Int) ∧ ∃ d rv, Aside0 (Dp g w0 j d rv v8 w')) (fun _ i _ => acts.length - (intOf i).toNat)
  case atStart => exact ⟨0, Nat.zero_le _, Nat.zero_le _, rfl, _, _, DP⟩
  case round =>
    clear DP
    obtain ⟨j, hj, hj60, rfl, d, rv, DP⟩ := hrel
    obtain ⟨A8, c8, e8, hl8, _⟩ := Kd.R_reads DP.out.row
    subst e8
    have HL8 := Aside0.mk hl8
    clear hl8
    by_cases hlt : j < acts.length ∧ j < 60
    · have q0 : decide ((j : Int) < (acts.length : Int)) = true := decide_eq_true (by omega)
      have q1 : decide (j < acts.length) = true := decide_eq_true hlt.1
      have q2 : decide ((j : Int) < 60) = true := decide_eq_true (by omega)
      have q3 : decide (j < 60) = true := decide_eq_true hlt.2
      have j0 : (0 : Int) ≤ (j : Int) := by omega
      have j1 : (j : Int) < (acts.length : Int) := by omega
      have hlt2 := hlt.1
      have hlt3 : j + 1 ≤ 60 := hlt.2
      obtain ⟨ad, hA, y0, y1, y2⟩ := at_T26 (Kd.C_below HC.out (BG.out _ DP.out.bel)) (j : Int) j0 j1
      rw [Int.toNat_natCast] at y0 y1 y2
      subst hA
      obtain ⟨a, ha⟩ : ∃ a, rd_T26 acts (j : Int) = a := ⟨_, rfl⟩
      rw [ha] at y0 y1 y2
      obtain ⟨u, hu, hu2⟩ := few_ex a
      have EU := Aside0.mk hu
      clear ha hlt hu hu2
      go_wp2_with (first | (go_at_call 7; fail))
      refine (lodestonelaw21_few.calls a.f0 a.f1 a.f2 u.f0 u.f1 u.f2 _ EU.out).mono ?_
      rintro e w5 ⟨rfl, hb⟩
      have b5 := below_alloc hb (.cells #[.string u.f0, .string u.f1, .bool u.f2] 26)
      have hbx := heap_alloc_new w5 (.cells #[.string u.f0, .string u.f1, .bool u.f2] 26)
      have H6 := Aside0.mk (DP.out.tab.below b5)
      have R6 := Aside0.mk (Kd.R_below DP.out.row b5)
      have B6 := Aside0.mk (DP.out.bel.trans (b5.mono DP.out.tab.base))
      have N6 := Aside0.mk (show ∀ k, rv.ownBlock = some k → k < w5.heap.size from fun k hk => Nat.lt_of_lt_of_le (Kd.R_lt DP.out.tab.row k hk) (below_size hb))
      have G6 := Aside0.mk (show g < w5.heap.size from Nat.lt_of_lt_of_le (blk_lt DP.out.tab.cells) (below_size hb))
      have HX := Aside0.mk hbx
      have RIS := Aside0.mk DP.out.ris
      have LEN := Aside0.mk DP.out.len
      have NEK := Aside0.mk DP.out.nek
      have b0 : (w5.alloc (.cells #[.string u.f0, .string u.f1, .bool u.f2] 26)).cell? ⟨w5.heap.size, 0, none⟩ = some (.string u.f0) := blk_cell hbx 0
      have b1 : (w5.alloc (.cells #[.string u.f0, .string u.f1, .bool u.f2] 26)).cell? ⟨w5.heap.size, 1, none⟩ = some (.string u.f1) := blk_cell hbx 1
      have b2 : (w5.alloc (.cells #[.string u.f0, .string u.f1, .bool u.f2] 26)).cell? ⟨w5.heap.size, 2, none⟩ = some (.bool u.f2) := blk_cell hbx 2
      clear hb b5 hbx DP y0 y1 y2
      by_cases hk : u.f0.toList = []
      · have s1 : (u.f0.toList == []) = true := by rw [hk]; rfl
        have s0 : u.f0.toList.isEmpty = true := by rw [hk]; rfl
        have HK := Aside0.mk hk
        clear hk
        go_wp2_with (first | (go_at_call 8; fail))
        refine (put_empty (p := ⟨g, g⟩) H6.out u HK.out).mono ?_
        rintro e w6 ⟨rfl, hb⟩
        have hbx := blk_below HX.out hb
        have H7 := Aside0.mk (H6.out.below hb)
        have R7 := Aside0.mk (Kd.R_below R6.out hb)
        have B7 := Aside0.mk (B6.out.trans (hb.mono H6.out.base))
        have HX7 := Aside0.mk hbx
        obtain ⟨bx, hbe⟩ : ∃ bx, w5.heap.size = bx := ⟨_, rfl⟩
        rw [hbe] at hbx HX7 ⊢
        have b0 : w6.cell? ⟨bx, 0, none⟩ = some (.string u.f0) := blk_cell hbx 0
        clear hb hbx b1 b2 H6 R6 B6 HX hbe
        go_wp2_with (first | (go_at_call 10; fail))
        refine (get_none (p := ⟨g, g⟩) H7.out RIS.out u.f0 (fun y hy => by rw [HK.out]; exact NEK.out y hy)).mono ?_
        rintro e w9 ⟨rfl, hb⟩
        have b9 := below_alloc hb (.cells #[.string ⟨#[]⟩, .string ⟨#[]⟩, .bool false] 26)
        have H9 := Aside0.mk (H7.out.below b9)
        have R9 := Aside0.mk (Kd.R_below R7.out b9)
        have B9 := Aside0.mk (B7.out.trans (b9.mono H7.out.base))
        have hbx := blk_below HX7.out b9
        have b0 : (w9.alloc (.cells #[.string ⟨#[]⟩, .string ⟨#[]⟩, .bool false] 26)).cell? ⟨bx, 0, none⟩ = some (.string u.f0) := blk_cell hbx 0
        clear hb b9 hbx H7 R7 B7 HX7
        go_wp2_with (first | (go_at_call 11; fail))
        refine (len_calls (p := ⟨g, g⟩) H9.out).mono ?_
        rintro e wd ⟨rfl, hb⟩
        have DN := Aside0.mk (show Dp g w0 (j + 1) d rv (.slice A8 d.length c8) wd from ⟨H9.out.below hb, Kd.R_below R9.out hb, RIS.out, Nat.le_succ_of_le LEN.out, NEK.out, B9.out.trans (hb.mono H9.out.base)⟩)
        have e2 : ((d.length : Int) == (d.length : Int)) = true := beq_self_eq_true _
        clear hb H9 R9 B9
        go_wp2
        exact ⟨⟨j + 1, hlt2, hlt3, by go_num, _, _, DN⟩, measj hlt2⟩
      · have s1 : (u.f0.toList == []) = false := beq_eq_false_iff_ne.mpr hk
        have s0 : u.f0.toList.isEmpty = false := by cases hw : u.f0.toList with | nil => exact absurd hw hk | cons _ _ => rfl
        have HK := Aside0.mk hk
        clear hk
        go_wp2_with (first | (go_at_call 8; fail))
        refine (put_calls (p := ⟨g, g⟩) H6.out RIS.out u (by have := LEN.out; omega)).mono ?_
        rintro e w6 ⟨rfl, ⟨rv6, hT6⟩, hb6, hF6⟩
        have hbx := (hF6 w5.heap.size (by rw [World.size_alloc]; exact Nat.lt_succ_self _) (by have := G6.out; show w5.heap.size ≠ g; omega) (fun e => Nat.lt_irrefl _ (N6.out _ e.symm))).trans HX.out
        have R7 := Aside0.mk (Kd.R_step R6.out (fun k hk hl => hF6 k hl hk.1 hk.2))
        have H7 := Aside0.mk hT6
        have B7 := Aside0.mk (B6.out.trans hb6)
        have HX7 := Aside0.mk hbx
        obtain ⟨bx, hbe⟩ : ∃ bx, w5.heap.size = bx := ⟨_, rfl⟩
        rw [hbe] at hbx HX7 ⊢
        have b0 : w6.cell? ⟨bx, 0, none⟩ = some (.string u.f0) := blk_cell hbx 0
        have b1 : w6.cell? ⟨bx, 1, none⟩ = some (.string u.f1) := blk_cell hbx 1
        have b2 : w6.cell? ⟨bx, 2, none⟩ = some (.bool u.f2) := blk_cell hbx 2
        clear hT6 hb6 hF6 hbx H6 R6 B6 HX hbe N6 G6
        go_wp2_with (first | (go_at_call 9; fail))
        refine (with_calls A8 c8 RIS.out u w6 (Kd.R_reads' R7.out).2.2 HL8.out (by have := LEN.out; omega) HK.out).mono ?_
        rintro e w7 ⟨v7, rfl, hR7, hb⟩
        obtain ⟨A7, c7, rfl, hl7, _⟩ := Kd.R_reads hR7
        have hbx := blk_below HX7.out hb
        have HX8 := Aside0.mk hbx
        have H8 := Aside0.mk (H7.out.below hb)
        have R8 := Aside0.mk (show Kd.R k26 26 w7 g (fun k => k ≠ g ∧ some k ≠ rv6.ownBlock) (.slice A7 (putL d u).length c7) (putL d u) from
          Kd.R_lower (Kd.R_mono (Kd.R_bound hR7) (fun k hk => ⟨fun e => by have h1 := hk.2.1; have h2 := blk_lt H7.out.cells; rw [e] at h1; exact Nat.lt_irrefl _ (Nat.lt_of_lt_of_le h2 h1), fun e => by have h1 := hk.2.1; exact Nat.lt_irrefl _ (Nat.lt_of_lt_of_le (Kd.R_lt H7.out.row k e.symm) h1)⟩)) H7.out.base)
        have B8 := Aside0.mk (B7.out.trans (hb.mono H7.out.base))
        have b0 : w7.cell? ⟨bx, 0, none⟩ = some (.string u.f0) := blk_cell hbx 0
        have b1 : w7.cell? ⟨bx, 1, none⟩ = some (.string u.f1) := blk_cell hbx 1
        have b2 : w7.cell? ⟨bx, 2, none⟩ = some (.bool u.f2) := blk_cell hbx 2
        clear hR7 hb hl7 hbx H7 R7 B7 HX7 HL8
        go_wp2_with (first | (go_at_call 10; fail))
        refine (get_put (p := ⟨g, g⟩) H8.out RIS.out HK.out).mono ?_
        rintro e w9 ⟨rfl, hb⟩
        have b9 := below_alloc hb (.cells #[.string u.f0, .string u.f1, .bool u.f2] 26)
        have hx9 := heap_alloc_new w9 (.cells #[.string u.f0, .string u.f1, .bool u.f2] 26)
        have hbx := blk_below HX8.out b9
        have H9 := Aside0.mk (H8.out.below b9)
        have R9 := Aside0.mk (Kd.R_below R8.out b9)
        have B9 := Aside0.mk (B8.out.trans (b9.mono H8.out.base))
        have b0 : (w9.alloc (.cells #[.string u.f0, .string u.f1, .bool u.f2] 26)).cell? ⟨bx, 0, none⟩ = some (.string u.f0) := blk_cell hbx 0
        have b1 : (w9.alloc (.cells #[.string u.f0, .string u.f1, .bool u.f2] 26)).cell? ⟨bx, 1, none⟩ = some (.string u.f1) := blk_cell hbx 1
        have b2 : (w9.alloc (.cells #[.string u.f0, .string u.f1, .bool u.f2] 26)).cell? ⟨bx, 2, none⟩ = some (.bool u.f2) := blk_cell hbx 2
        have x0 : (w9.alloc (.cells #[.string u.f0, .string u.f1, .bool u.f2] 26)).cell? ⟨w9.heap.size, 0, none⟩ = some (.string u.f0) := blk_cell hx9 0
        have x1 : (w9.alloc (.cells #[.string u.f0, .string u.f1, .bool u.f2] 26)).cell? ⟨w9.heap.size, 1, none⟩ = some (.string u.f1) := blk_cell hx9 1
        have x2 : (w9.alloc (.cells #[.string u.f0, .string u.f1, .bool u.f2] 26)).cell? ⟨w9.heap.size, 2, none⟩ = some (.bool u.f2) := blk_cell hx9 2
        have r0 : (u.f0.toList == u.f0.toList) = true := beq_self_eq_true _
        have r1 : (u.f1.toList == u.f1.toList) = true := beq_self_eq_true _
        have r2 : (u.f2 == u.f2) = true := beq_self_eq_true _
        clear hb b9 hx9 hbx H8 R8 B8 HX8
        go_wp2_with (first | (go_at_call 11; fail))
        refine (len_calls (p := ⟨g, g⟩) H9.out).mono ?_
        rintro e wd ⟨rfl, hb⟩
        have DN := Aside0.mk (show Dp g w0 (j + 1) (putL d u) rv6 (.slice A7 (putL d u).length c7) wd from ⟨H9.out.below hb, Kd.R_below R9.out hb, putL_rises RIS.out u, Nat.le_trans (putL_length d u) (Nat.succ_le_succ LEN.out), putL_ne NEK.out u, B9.out.trans (hb.mono H9.out.base)⟩)
        have e2 : (((putL d u).length : Int) == ((putL d u).length : Int)) = true := beq_self_eq_true _
        clear hb H9 R9 B9
        go_wp2
        exact ⟨⟨j + 1, hlt2, hlt3, by go_num, _, _, DN⟩, measj hlt2⟩
    · have DL := Aside0.mk (show d.length ≤ 60 from Nat.le_trans DP.out.len hj60)
      by_cases hl1 : j < acts.length
      · have q0 : decide ((j : Int) < (acts.length : Int)) = true := decide_eq_true (by omega)
        have q1 : decide (j < acts.length) = true := decide_eq_true hl1
        have q2 : decide ((j : Int) < 60) = false := decide_eq_false (by omega)
        have q3 : decide (j < 60) = false := decide_eq_false (by omega)
        clear hlt
        rename World => wP
        have WR0 := Aside0.mk (show Kd.R k26 26 (wP.alloc (.cells #[] 26)) wP.heap.size (fun _ => True) (.slice (some ⟨wP.heap.size, 0, none⟩) 0 0) (([] : List S26).filter (keep f t)) from ⟨fun _ _ => trivial, [], World.ownsRow_made wP #[] 0 (Nat.le_refl _) (Nat.zero_le _) rfl, Reps.none _ _⟩)
        have WB0 := Aside0.mk (below_alloc (Below.refl wP.heap.size wP) (.cells #[] 26))
        go_wp2
        go_loopw [13, 14] (fun v13 i W => ∃ n : Nat, n ≤ d.length ∧ i = .int .i64 (n : Int) ∧ Aside0 (Kd.R k26 26 W wP.heap.size (fun _ => True) v13 ((d.take n).filter (keep f t)) ∧ Below wP.heap.size wP W)) (fun _ i _ => d.length - (intOf i).toNat)
        case atStart => exact ⟨0, Nat.zero_le _, rfl, .mk ⟨WR0.out, WB0.out⟩⟩
        case round =>
          clear WR0 WB0
          obtain ⟨n, hn, rfl, HI⟩ := hrel
          by_cases hin : n < d.length
          · have p0 : decide ((n : Int) < (d.length : Int)) = true := decide_eq_true (by omega)
            have p1 : decide (n < d.length) = true := decide_eq_true hin
            have hn60 : n + 1 ≤ 60 := by have := DL.out; omega
            have k0 : (0 : Int) ≤ (n : Int) := by omega
            have k1 : (n : Int) < (d.length : Int) := by omega
            obtain ⟨ad, hA, t0, t1, t2⟩ := at_T26 (Kd.C_below (Kd.R_reads' DP.out.row).2.2 HI.out.2) (n : Int) k0 k1
            rw [Int.toNat_natCast] at t0 t1 t2
            subst hA
            have KS := Aside0.mk (keep_step (f := f) (t := t) hin)
            obtain ⟨y, hy⟩ : ∃ y, rd_T26 d (n : Int) = y := ⟨_, rfl⟩
            rw [hy] at t0 t1 t2 KS
            have WL := Aside0.mk (show ((d.take n).filter (keep f t)).length ≤ 60 from by have h1 := List.length_filter_le (keep f t) (d.take n); have h2 := DL.out; rw [List.length_take] at h1; omega)
            clear hy
            rcases Bool.eq_false_or_eq_true (Op.bytesLess y.f0.toList f.toList) with v1 | v1
            · have KE := Aside0.mk (show keep f t y = false from by unfold keep lt; rw [v1]; rfl)
              go_wp2
              exact ⟨⟨n + 1, hin, by go_num, .mk ⟨by rw [KS.out, if_neg (by rw [KE.out]; decide)]; exact HI.out.1, HI.out.2⟩⟩, measj hin⟩
            · by_cases ht : t.toList = []
              · have s1 : (t.toList == []) = true := by rw [ht]; rfl
                have s0 : t.toList.isEmpty = true := by rw [ht]; rfl
                have KE := Aside0.mk (show keep f t y = true from by unfold keep lt; rw [v1, s0]; rfl)
                clear ht
                have WR := Aside0.mk HI.out.1
                have WB := Aside0.mk HI.out.2
                go_wp2_with (first | ((with_reducible refine gate_builtin (b := .append) (xs := #[.tmp 95, .tmp 100]) rfl ?_); at_builtin; refine Kd.R_append k26 (w0 := wP) wP.heap.size rfl (.tmp 95) (.tmp 100) 22 26 (.agg #[(.string ⟨#[]⟩), (.string ⟨#[]⟩), (.bool false)]) 40 rfl Try.underlying22 info26 rfl (by decide) (by omega) u13 ((d.take n).filter (keep f t)) (y : S26) [.string y.f0, .string y.f1, .bool y.f2] (fun _ => True) (fun _ => False) rfl rfl ?aP (fun _ hk => hk.elim) (fun _ _ => trivial) WR.out WB.out (below_size WB.out) (by have := WL.out; omega) ?_; (case aP => exact k26_mkM _ _ _ y); intro v13b wn ho hb hg_ hn_; clear hg_ hn_))
                have DN := Aside0.mk (show Kd.R k26 26 wn wP.heap.size (fun _ => True) v13b ((d.take (n + 1)).filter (keep f t)) ∧ Below wP.heap.size wP wn from ⟨by rw [KS.out, if_pos KE.out]; exact ho, hb⟩)
                clear ho hb
                go_wp2
                exact ⟨⟨n + 1, hin, by go_num, DN⟩, measj hin⟩
              · have s1 : (t.toList == []) = false := beq_eq_false_iff_ne.mpr ht
                have s0 : t.toList.isEmpty = false := by cases hw : t.toList with | nil => exact absurd hw ht | cons _ _ => rfl
                clear ht
                rcases Bool.eq_false_or_eq_true (Op.bytesLess y.f0.toList t.toList) with v2 | v2
                · have KE := Aside0.mk (show keep f t y = true from by unfold keep lt; rw [v1, s0, v2]; rfl)
                  have WR := Aside0.mk HI.out.1
                  have WB := Aside0.mk HI.out.2
                  go_wp2_with (first | ((with_reducible refine gate_builtin (b := .append) (xs := #[.tmp 95, .tmp 100]) rfl ?_); at_builtin; refine Kd.R_append k26 (w0 := wP) wP.heap.size rfl (.tmp 95) (.tmp 100) 22 26 (.agg #[(.string ⟨#[]⟩), (.string ⟨#[]⟩), (.bool false)]) 40 rfl Try.underlying22 info26 rfl (by decide) (by omega) u13 ((d.take n).filter (keep f t)) (y : S26) [.string y.f0, .string y.f1, .bool y.f2] (fun _ => True) (fun _ => False) rfl rfl ?aP (fun _ hk => hk.elim) (fun _ _ => trivial) WR.out WB.out (below_size WB.out) (by have := WL.out; omega) ?_; (case aP => exact k26_mkM _ _ _ y); intro v13b wn ho hb hg_ hn_; clear hg_ hn_))
                  have DN := Aside0.mk (show Kd.R k26 26 wn wP.heap.size (fun _ => True) v13b ((d.take (n + 1)).filter (keep f t)) ∧ Below wP.heap.size wP wn from ⟨by rw [KS.out, if_pos KE.out]; exact ho, hb⟩)
                  clear ho hb
                  go_wp2
                  exact ⟨⟨n + 1, hin, by go_num, DN⟩, measj hin⟩
                · have KE := Aside0.mk (show keep f t y = false from by unfold keep lt; rw [v1, s0, v2]; rfl)
                  go_wp2
                  exact ⟨⟨n + 1, hin, by go_num, .mk ⟨by rw [KS.out, if_neg (by rw [KE.out]; decide)]; exact HI.out.1, HI.out.2⟩⟩, measj hin⟩
          · have p0 : decide ((n : Int) < (d.length : Int)) = false := decide_eq_false (by omega)
            have p1 : decide (n < d.length) = false := decide_eq_false hin
            have ER : (d.take n).filter (keep f t) = rangeL d f t := by rw [show n = d.length by omega, List.take_length, keep_range DP.out.ris]
            have HR := HI.out.1
            rw [ER] at HR
            have WB := Aside0.mk HI.out.2
            clear HI ER hin
            obtain ⟨A13, c13, rfl, hl13, hC13⟩ := Kd.R_reads HR
            have L13 := Aside0.mk hl13
            have C13 := Aside0.mk hC13
            have LR := Aside0.mk (show (rangeL d f t).length < 1000000 from by unfold rangeL; have h2 := DL.out; rw [List.length_drop, List.length_take]; omega)
            clear HR hl13 hC13
            go_wp2_with (first | (go_at_call 12; fail))
            refine (awake_calls _).mono ?_
            rintro e wa ⟨rfl, hb⟩
            have Ba := Aside0.mk hb
            clear hb
            go_wp2_with (first | (go_at_call 14; fail))
            refine (all_calls (p := ⟨g, g⟩) (DP.out.tab.below (below_step WB.out Ba.out)) DP.out.ris).mono ?_
            rintro e wb ⟨vb, rfl, hRb, hbb⟩
            obtain ⟨Ab, cb, rfl, hlb, hCb⟩ := Kd.R_reads hRb
            have Bb := Aside0.mk (below_step Ba.out hbb)
            have LB := Aside0.mk hlb
            have CB := Aside0.mk hCb
            clear hRb hbb hlb hCb
            go_wp2_with (first | (go_at_call 13; fail))
            refine (same_calls Ab A8 cb c8 d wb CB.out LB.out (Kd.C_below (Kd.R_reads' DP.out.row).2.2 (below_step WB.out Bb.out)) HL8.out (by have := DL.out; omega)).mono ?_
            rintro e wc ⟨rfl, hb⟩
            have Bc := Aside0.mk (below_step Bb.out hb)
            clear hb
            go_wp2_with (first | (go_at_call 15; fail))
            refine (range_calls (p := ⟨g, g⟩) (DP.out.tab.below (below_step WB.out Bc.out)) DP.out.ris f t).mono ?_
            rintro e wd ⟨vd, rfl, hRd, hbd⟩
            obtain ⟨Ad, cd, rfl, hld, hCd⟩ := Kd.R_reads hRd
            have Bd := Aside0.mk (below_step Bc.out hbd)
            have LD := Aside0.mk hld
            have CD := Aside0.mk hCd
            clear hRd hbd hld hCd
            go_wp2_with (first | (go_at_call 13; fail))
            refine (same_calls Ad A13 cd c13 (rangeL d f t) wd CD.out LD.out (Kd.C_below C13.out Bd.out) L13.out LR.out).mono ?_
            rintro e we ⟨rfl, hb⟩
            have Be := Aside0.mk (BG.out _ (DP.out.bel.trans ((below_step WB.out (below_step Bd.out hb)).mono DP.out.tab.base)))
            clear hb
            go_wp2
            go_ret
            exact ⟨rfl, Be.out⟩
      · have q0 : decide ((j : Int) < (acts.length : Int)) = false := decide_eq_false (by omega)
        have q1 : decide (j < acts.length) = false := decide_eq_false hl1
        clear hlt
        rename World => wP
        have WR0 := Aside0.mk (show Kd.R k26 26 (wP.alloc (.cells #[] 26)) wP.heap.size (fun _ => True) (.slice (some ⟨wP.heap.size, 0, none⟩) 0 0) (([] : List S26).filter (keep f t)) from ⟨fun _ _ => trivial, [], World.ownsRow_made wP #[] 0 (Nat.le_refl _) (Nat.zero_le _) rfl, Reps.none _ _⟩)
        have WB0 := Aside0.mk (below_alloc (Below.refl wP.heap.size wP) (.cells #[] 26))
        go_wp2
        go_loopw [13, 14] (fun v13 i W => ∃ n : Nat, n ≤ d.length ∧ i = .int .i64 (n : Int) ∧ Aside0 (Kd.R k26 26 W wP.heap.size (fun _ => True) v13 ((d.take n).filter (keep f t)) ∧ Below wP.heap.size wP W)) (fun _ i _ => d.length - (intOf i).toNat)
        case atStart => exact ⟨0, Nat.zero_le _, rfl, .mk ⟨WR0.out, WB0.out⟩⟩
        case round =>
          clear WR0 WB0
          obtain ⟨n, hn, rfl, HI⟩ := hrel
          by_cases hin : n < d.length
          · have p0 : decide ((n : Int) < (d.length : Int)) = true := decide_eq_true (by omega)
            have p1 : decide (n < d.length) = true := decide_eq_true hin
            have hn60 : n + 1 ≤ 60 := by have := DL.out; omega
            have k0 : (0 : Int) ≤ (n : Int) := by omega
            have k1 : (n : Int) < (d.length : Int) := by omega
            obtain ⟨ad, hA, t0, t1, t2⟩ := at_T26 (Kd.C_below (Kd.R_reads' DP.out.row).2.2 HI.out.2) (n : Int) k0 k1
            rw [Int.toNat_natCast] at t0 t1 t2
            subst hA
            have KS := Aside0.mk (keep_step (f := f) (t := t) hin)
            obtain ⟨y, hy⟩ : ∃ y, rd_T26 d (n : Int) = y := ⟨_, rfl⟩
            rw [hy] at t0 t1 t2 KS
            have WL := Aside0.mk (show ((d.take n).filter (keep f t)).length ≤ 60 from by have h1 := List.length_filter_le (keep f t) (d.take n); have h2 := DL.out; rw [List.length_take] at h1; omega)
            clear hy
            rcases Bool.eq_false_or_eq_true (Op.bytesLess y.f0.toList f.toList) with v1 | v1
            · have KE := Aside0.mk (show keep f t y = false from by unfold keep lt; rw [v1]; rfl)
              go_wp2
              exact ⟨⟨n + 1, hin, by go_num, .mk ⟨by rw [KS.out, if_neg (by rw [KE.out]; decide)]; exact HI.out.1, HI.out.2⟩⟩, measj hin⟩
            · by_cases ht : t.toList = []
              · have s1 : (t.toList == []) = true := by rw [ht]; rfl
                have s0 : t.toList.isEmpty = true := by rw [ht]; rfl
                have KE := Aside0.mk (show keep f t y = true from by unfold keep lt; rw [v1, s0]; rfl)
                clear ht
                have WR := Aside0.mk HI.out.1
                have WB := Aside0.mk HI.out.2
                go_wp2_with (first | ((with_reducible refine gate_builtin (b := .append) (xs := #[.tmp 95, .tmp 100]) rfl ?_); at_builtin; refine Kd.R_append k26 (w0 := wP) wP.heap.size rfl (.tmp 95) (.tmp 100) 22 26 (.agg #[(.string ⟨#[]⟩), (.string ⟨#[]⟩), (.bool false)]) 40 rfl Try.underlying22 info26 rfl (by decide) (by omega) u13 ((d.take n).filter (keep f t)) (y : S26) [.string y.f0, .string y.f1, .bool y.f2] (fun _ => True) (fun _ => False) rfl rfl ?aP (fun _ hk => hk.elim) (fun _ _ => trivial) WR.out WB.out (below_size WB.out) (by have := WL.out; omega) ?_; (case aP => exact k26_mkM _ _ _ y); intro v13b wn ho hb hg_ hn_; clear hg_ hn_))
                have DN := Aside0.mk (show Kd.R k26 26 wn wP.heap.size (fun _ => True) v13b ((d.take (n + 1)).filter (keep f t)) ∧ Below wP.heap.size wP wn from ⟨by rw [KS.out, if_pos KE.out]; exact ho, hb⟩)
                clear ho hb
                go_wp2
                exact ⟨⟨n + 1, hin, by go_num, DN⟩, measj hin⟩
              · have s1 : (t.toList == []) = false := beq_eq_false_iff_ne.mpr ht
                have s0 : t.toList.isEmpty = false := by cases hw : t.toList with | nil => exact absurd hw ht | cons _ _ => rfl
                clear ht
                rcases Bool.eq_false_or_eq_true (Op.bytesLess y.f0.toList t.toList) with v2 | v2
                · have KE := Aside0.mk (show keep f t y = true from by unfold keep lt; rw [v1, s0, v2]; rfl)
                  have WR := Aside0.mk HI.out.1
                  have WB := Aside0.mk HI.out.2
                  go_wp2_with (first | ((with_reducible refine gate_builtin (b := .append) (xs := #[.tmp 95, .tmp 100]) rfl ?_); at_builtin; refine Kd.R_append k26 (w0 := wP) wP.heap.size rfl (.tmp 95) (.tmp 100) 22 26 (.agg #[(.string ⟨#[]⟩), (.string ⟨#[]⟩), (.bool false)]) 40 rfl Try.underlying22 info26 rfl (by decide) (by omega) u13 ((d.take n).filter (keep f t)) (y : S26) [.string y.f0, .string y.f1, .bool y.f2] (fun _ => True) (fun _ => False) rfl rfl ?aP (fun _ hk => hk.elim) (fun _ _ => trivial) WR.out WB.out (below_size WB.out) (by have := WL.out; omega) ?_; (case aP => exact k26_mkM _ _ _ y); intro v13b wn ho hb hg_ hn_; clear hg_ hn_))
                  have DN := Aside0.mk (show Kd.R k26 26 wn wP.heap.size (fun _ => True) v13b ((d.take (n + 1)).filter (keep f t)) ∧ Below wP.heap.size wP wn from ⟨by rw [KS.out, if_pos KE.out]; exact ho, hb⟩)
                  clear ho hb
                  go_wp2
                  exact ⟨⟨n + 1, hin, by go_num, DN⟩, measj hin⟩
                · have KE := Aside0.mk (show keep f t y = false from by unfold keep lt; rw [v1, s0, v2]; rfl)
                  go_wp2
                  exact ⟨⟨n + 1, hin, by go_num, .mk ⟨by rw [KS.out, if_neg (by rw [KE.out]; decide)]; exact HI.out.1, HI.out.2⟩⟩, measj hin⟩
          · have p0 : decide ((n : Int) < (d.length : Int)) = false := decide_eq_false (by omega)
            have p1 : decide (n < d.length) = false := decide_eq_false hin
            have ER : (d.take n).filter (keep f t) = rangeL d f t := by rw [show n = d.length by omega, List.take_length, keep_range DP.out.ris]
            have HR := HI.out.1
            rw [ER] at HR
            have WB := Aside0.mk HI.out.2
            clear HI ER hin
            obtain ⟨A13, c13, rfl, hl13, hC13⟩ := Kd.R_reads HR
            have L13 := Aside0.mk hl13
            have C13 := Aside0.mk hC13
            have LR := Aside0.mk (show (rangeL d f t).length < 1000000 from by unfold rangeL; have h2 := DL.out; rw [List.length_drop, List.length_take]; omega)
            clear HR hl13 hC13
            go_wp2_with (first | (go_at_call 12; fail))
            refine (awake_calls _).mono ?_
            rintro e wa ⟨rfl, hb⟩
            have Ba := Aside0.mk hb
            clear hb
            go_wp2_with (first | (go_at_call 14; fail))
            refine (all_calls (p := ⟨g, g⟩) (DP.out.tab.below (below_step WB.out Ba.out)) DP.out.ris).mono ?_
            rintro e wb ⟨vb, rfl, hRb, hbb⟩
            obtain ⟨Ab, cb, rfl, hlb, hCb⟩ := Kd.R_reads hRb
            have Bb := Aside0.mk (below_step Ba.out hbb)
            have LB := Aside0.mk hlb
            have CB := Aside0.mk hCb
            clear hRb hbb hlb hCb
            go_wp2_with (first | (go_at_call 13; fail))
            refine (same_calls Ab A8 cb c8 d wb CB.out LB.out (Kd.C_below (Kd.R_reads' DP.out.row).2.2 (below_step WB.out Bb.out)) HL8.out (by have := DL.out; omega)).mono ?_
            rintro e wc ⟨rfl, hb⟩
            have Bc := Aside0.mk (below_step Bb.out hb)
            clear hb
            go_wp2_with (first | (go_at_call 15; fail))
            refine (range_calls (p := ⟨g, g⟩) (DP.out.tab.below (below_step WB.out Bc.out)) DP.out.ris f t).mono ?_
            rintro e wd ⟨vd, rfl, hRd, hbd⟩
            obtain ⟨Ad, cd, rfl, hld, hCd⟩ := Kd.R_reads hRd
            have Bd := Aside0.mk (below_step Bc.out hbd)
            have LD := Aside0.mk hld
            have CD := Aside0.mk hCd
            clear hRd hbd hld hCd
            go_wp2_with (first | (go_at_call 13; fail))
            refine (same_calls Ad A13 cd c13 (rangeL d f t) wd CD.out LD.out (Kd.C_below C13.out Bd.out) L13.out LR.out).mono ?_
            rintro e we ⟨rfl, hb⟩
            have Be := Aside0.mk (BG.out _ (DP.out.bel.trans ((below_step WB.out (below_step Bd.out hb)).mono DP.out.tab.base)))
            clear hb
            go_wp2
            go_ret
            exact ⟨rfl, Be.out⟩
end Go.Proofs.Ytdkepbmpcbnkpaa.Dl
