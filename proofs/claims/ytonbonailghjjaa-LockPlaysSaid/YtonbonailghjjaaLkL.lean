/- A thing that is held, taken by one whom nobody keeps from it, walked. -/
import Derived.Test.YtonbonailghjjaaLkG
import Derived.Test.YtonbonailghjjaaLkK
namespace Go.Proofs.Ytonbonailghjjaa.Lk
open Go.RowKit Go.Proofs.YtonbonailghjjaaW.PrintWords Go.Proofs.YtonbonailghjjaaW.PrintLast Go.Proofs.YtonbonailghjjaaW.PrintMore Go.Proofs.Ytonbonailghjjaa.XB Go.Proofs.Ytonbonailghjjaa.PLockMost
attribute [local go_sem] max2_int min2_int max_two min_two max_three min_three max_four min_four
set_option linter.unusedVariables false
set_option linter.unusedSimpArgs false
variable {w w' : World} {p : At} {rv : Value} {l : List S51}
theorem tab_elem2 {W : World} {gR n c : Nat} (h : Tab W p (.slice (some ⟨gR, 0, none⟩) n c) l) (k : Nat) (hk : k < l.length) (x : S51) (hx : rd_T51 l (k : Int) = x) {ws : List Int} {A1 : Option Addr} {n1 c1 : Nat} (hR1 : Kd.R (Kd.int .i64) 3 W p.B (fun q => q ≠ p.g ∧ q ≠ gR) (.slice A1 n1 c1) ws) (hl : ws.length < 1000) (m : Int) :
    Tab (((W.setCell ⟨gR, k * 3, none⟩ (.string x.f0)).setCell ⟨gR, k * 3 + 1, none⟩ (.slice A1 n1 c1)).setCell ⟨gR, k * 3 + 2, none⟩ (.int .i64 m)) p (.slice (some ⟨gR, 0, none⟩) n c) (l.set k ⟨x.f0, ws, m⟩) := by
  have hn := (Kd.R_reads' h.row).1
  have k0 : (0 : Int) ≤ (k : Int) := by omega
  have k1 : (k : Int) < (n : Int) := by omega
  obtain ⟨cs, hcl, hM, hcc, _⟩ := Kd.R_elem h.row z51 (k : Int) k0 k1
  obtain ⟨hR, hG⟩ := Kd.R_seg h.row (k : Int) k0 k1 (c := cs) (seg := [.string x.f0, .slice A1 n1 c1, .int .i64 m]) (j := 0) (x' := ⟨x.f0, ws, m⟩) (okp := fun q => q ≠ p.g ∧ q ≠ gR) hcl hcc (Nat.le_refl 3) (by
    have e : cs.drop 3 = [] := List.drop_of_length_le (by rw [hcl]; exact Nat.le_refl 3)
    show k51.M W p.B _ _ (cs.take 0 ++ [.string x.f0, .slice A1 n1 c1, .int .i64 m] ++ cs.drop 3)
    rw [e]
    exact k51_mkM W p.B _ (⟨x.f0, ws, m⟩ : S51) hR1) (fun q hq => hq)
  have hgne : p.g ≠ gR := fun e => h.row.1 gR (by simp [Value.ownBlock]) e.symm
  refine ⟨?_, hR, h.bg, by rw [List.length_set]; exact h.small, fun y hy => ?_⟩
  · exact (Below.heap_setCell _ _ _ _ hgne).trans ((Below.heap_setCell _ _ _ _ hgne).trans ((Below.heap_setCell _ _ _ _ hgne).trans h.cells))
  · rcases List.mem_or_eq_of_mem_set hy with hy | rfl
    · exact h.wide y hy
    · exact hl
/-- who holds a thing behind a taking -/
def joined (ws : List Int) (who : Int) : List Int := if cont ws who then ws else insL ws (ws.countP (· < who)) who
set_option maxHeartbeats 8000000 in
set_option maxRecDepth 100000 in
theorem take_any (h : Tab w p rv l) (who : Int) (h0 : 0 ≤ who) (h1 : who < 16) (what : ByteArray) (hne : what.toList ≠ []) (alone : Bool) (hh : ∀ x ∈ l, x.f2 = 0 ∨ x.f2 = 1) (k : Nat) (hk : k < l.length) (hi : idx what l = (k : Int)) (ws : List Int) (hx : (rd_T51 l (k : Int)).f1 = ws) (hws : ws ≠ []) (hwl : ws.length < 999) (hrise : ws.Pairwise (· ≤ ·)) (ea : agn l who what alone = []) (hd : held l who < 512) :
    Calls Try.prog 8 #[.pointer (some ⟨p.g, 0, none⟩), .int .i64 who, .agg #[.string what, .bool alone]] w fun e w' => e = .returned (.tuple #[.slice none 0 0, .int .i64 0]) ∧ (∃ rv', Tab w' p rv' (l.set k ⟨(rd_T51 l (k : Int)).f0, joined ws who, max (rd_T51 l (k : Int)).f2 (howI alone)⟩)) ∧ Below p.B w w' ∧ Far p.g rv.ownBlock w w' := by
  have b0 := Aside0.mk (below_alloc (Below.refl w.heap.size w) (.cells #[.string what, .bool alone] 38))
  have H2 := Aside0.mk (h.below b0.out)
  have hn := heap_alloc_new w (.cells #[.string what, .bool alone] 38)
  have z0 : (w.alloc (.cells #[.string what, .bool alone] 38)).cell? ⟨w.heap.size, 0, none⟩ = some (.string what) := blk_cell hn 0
  have z1 : (w.alloc (.cells #[.string what, .bool alone] 38)).cell? ⟨w.heap.size, 1, none⟩ = some (.bool alone) := blk_cell hn 1
  have d0 : decide (who < 0) = false := decide_eq_false (by omega)
  have d1 : decide (16 ≤ who) = false := decide_eq_false (by omega)
  have s0 : what.toList.isEmpty = false := by cases hw : what.toList with | nil => exact absurd hw hne | cons _ _ => rfl
  have s1 : (what.toList == []) = false := beq_eq_false_iff_ne.mpr hne
  have HH := Aside0.mk hh
  have HI := Aside0.mk hi
  have EA := Aside0.mk ea
  have HDD := Aside0.mk hd
  have HWS := Aside0.mk hws
  have HRISE := Aside0.mk hrise
  have HWL := Aside0.mk hwl
  have WLT := Aside0.mk (show p.g < w.heap.size from blk_lt h.cells)
  have HB0 := Aside0.mk h.base
  obtain ⟨gR, c', hrv⟩ := tab_row h (by omega)
  subst hrv
  obtain ⟨x, hxx⟩ : ∃ x, rd_T51 l (k : Int) = x := ⟨_, rfl⟩
  have XX := Aside0.mk hxx
  rw [hxx] at hx ⊢
  have F1 := Aside0.mk hx
  have GRL := Aside0.mk (show gR < w.heap.size from Kd.R_lt h.row gR (by simp [Value.ownBlock]))
  have GRN := Aside0.mk (show gR ≠ p.g from h.row.1 gR (by simp [Value.ownBlock]))
  clear h hn hh hi hx ea hd hws hrise hwl hxx
  go_enter Try.func8, Try.ntmps8
  go_wp2_with (first | (go_at_call 17; fail))
  refine (against_calls H2.out who what alone HH.out).mono ?_
  rw [EA.out]
  rintro e w3 ⟨v3, rfl, hR, hb⟩
  obtain ⟨A3, c3, rfl, _, _⟩ := Kd.R_reads hR
  have HB3 := Aside0.mk (below_step b0.out hb)
  have H3 := Aside0.mk (H2.out.below hb)
  have y0 : w3.cell? ⟨w.heap.size, 0, none⟩ = some (.string what) := pw_cell_below hb z0
  have y1 : w3.cell? ⟨w.heap.size, 1, none⟩ = some (.bool alone) := pw_cell_below hb z1
  clear hb hR z0 z1
  go_wp2_with (first | (go_at_call 18; fail))
  refine (find_calls H3.out what).mono ?_
  rw [HI.out]
  rintro e w4 ⟨rfl, hb⟩
  have HB4 := Aside0.mk (below_step HB3.out hb)
  have H4 := Aside0.mk (H3.out.below hb)
  have x0 : w4.cell? ⟨w.heap.size, 0, none⟩ = some (.string what) := pw_cell_below hb y0
  have x1 : w4.cell? ⟨w.heap.size, 1, none⟩ = some (.bool alone) := pw_cell_below hb y1
  clear hb y0 y1
  have k0 : (0 : Int) ≤ (k : Int) := by omega
  have k1 : (k : Int) < (l.length : Int) := by omega
  have k2 : ¬ (k : Int) < 0 := by omega
  have k3 : decide ((k : Int) < 0) = false := decide_eq_false k2
  have k4 : decide ((0 : Int) ≤ (k : Int)) = true := decide_eq_true k0
  obtain ⟨A1, c1, t0, t1, t2, hlen, hC1, hR1⟩ := tab_at H4.out k hk
  rw [XX.out] at t0 t1 t2 hlen hC1 hR1
  rw [F1.out] at t1 hlen hC1 hR1
  obtain ⟨gA, rfl⟩ : ∃ gA, A1 = some ⟨gA, 0, none⟩ := by
    have ho := Kd.own_of_R hR1
    rcases ho.2 with ⟨_, h2⟩ | ⟨g, cap, cur, hv, _⟩
    · exact absurd (List.eq_nil_of_length_eq_zero h2) HWS.out
    · injection hv with e1 _ _
      exact ⟨g, e1⟩
  have cg : w4.cell? ⟨p.g, 0, none⟩ = some (.slice (some ⟨gR, 0, none⟩) l.length c') := blk_cell H4.out.cells 0
  have HC1 := Aside0.mk hC1
  have HR1 := Aside0.mk hR1
  have HLE := Aside0.mk hlen
  clear hC1 hlen hR1
  go_wp2_with (first | (go_at_call 13; fail))
  refine (contains_calls (some ⟨gA, 0, none⟩) c1 ws who w4 HC1.out HLE.out (Nat.lt_of_lt_of_le HWL.out (by decide))).mono ?_
  rintro e w5 ⟨rfl, hb⟩
  have HB5 := Aside0.mk (below_step HB4.out hb)
  have H5 := Aside0.mk (H4.out.below hb)
  have u0 := pw_cell_below hb t0
  have u1 := pw_cell_below hb t1
  have u2 := pw_cell_below hb t2
  have r0 := pw_cell_below hb x0
  have r1 := pw_cell_below hb x1
  have cg5 := pw_cell_below hb cg
  have HC5 := Aside0.mk (Kd.C_below HC1.out hb)
  have HR5 := Aside0.mk (Kd.R_below HR1.out hb)
  clear hb t0 t1 t2 x0 x1 cg HC1 HR1 H4 H3 H2
  obtain ⟨bb, hbb⟩ : ∃ bb, cont ws who = bb := ⟨_, rfl⟩
  have BBQ := Aside0.mk hbb
  rw [hbb]
  clear hbb
  cases bb with
  | true =>
    go_wp2_with (first | (go_at_call 20; fail))
    have hn5 := heap_alloc_new w5 (.cells #[.string x.f0, .slice (some ⟨gA, 0, none⟩) ws.length c1, .int .i64 x.f2] 51)
    have N5 := Aside0.mk hn5
    clear hn5
    refine (search_calls _ gA c1 ws who (Kd.C_alloc HC5.out _) (Nat.lt_of_lt_of_le HWL.out (by decide)) HRISE.out).mono ?_
    rw [BBQ.out]
    rintro e W7 ⟨rfl, hb⟩
    have BB := Aside0.mk (show Below w5.heap.size w5 W7 from below_step (below_alloc (Below.refl _ _) _) hb)
    have HC7 := Aside0.mk (blk_below N5.out hb)
    clear hb N5
    obtain ⟨hb, hhb⟩ : ∃ hb, w5.heap.size = hb := ⟨_, rfl⟩
    rw [hhb] at HC7 ⊢
    obtain ⟨A2, n2, c2, ws2, HR2, WS, LW⟩ : ∃ A2 n2 c2 ws2, Aside0 (Kd.R (Kd.int .i64) 3 W7 p.B (fun q => q ≠ p.g ∧ q ≠ gR ∧ q ≠ hb) (.slice A2 n2 c2) ws2 ∧ Value.slice (some ⟨gA, 0, none⟩) ws.length c1 = .slice A2 n2 c2) ∧ Aside0 (joined ws who = ws2) ∧ Aside0 (ws2.length < 1000) :=
      ⟨some ⟨gA, 0, none⟩, ws.length, c1, ws, .mk ⟨Kd.R_mono (Kd.R_below (Kd.R_bound HR5.out) BB.out) (fun q hq => ⟨hq.1.1, hq.1.2.1, by rw [← hhb]; exact Nat.ne_of_lt hq.2.2.1⟩), rfl⟩, .mk (by unfold joined; rw [BBQ.out]; rfl), .mk (Nat.lt_of_lt_of_le HWL.out (by decide))⟩
    have R2 := Aside0.mk HR2.out.1
    have m72 : W7.cell? ⟨hb, 2, none⟩ = some (.int .i64 x.f2) := blk_cell HC7.out 2
    rw [HR2.out.2] at HC7 ⊢
    have r70 := pw_cell_below BB.out r0
    have r71 := pw_cell_below BB.out r1
    have H7 := Aside0.mk (H5.out.below BB.out)
    have HBG := Aside0.mk (show hb ≠ p.g from by rw [← hhb]; exact fun e => by have := HB5.out.size; have := WLT.out; omega)
    have H7R := Aside0.mk (show Kd.R k51 51 W7 p.B (fun q => q ≠ p.g ∧ q ≠ hb) (.slice (some ⟨gR, 0, none⟩) l.length c') l from Kd.R_mono (Kd.R_below (Kd.R_bound H5.out.row) BB.out) (fun q hq => ⟨hq.1, by rw [← hhb]; exact fun e => by have := hq.2.2.1; omega⟩))
    have BW7 := Aside0.mk (show Below w.heap.size w W7 from below_step HB5.out BB.out)
    have HBW := Aside0.mk (show w.heap.size ≤ hb from by rw [← hhb]; exact HB5.out.size)
    have HBB := Aside0.mk (show p.B ≤ hb from by rw [← hhb]; exact Nat.le_trans HB0.out HB5.out.size)
    clear u0 u1 u2 r0 r1 cg5 HR5 HC5 H5 HR2 BB
    go_wp2
    refine start_ (n := 7) (S := fun w' => w'.cell? ⟨hb, 2, none⟩ = some (.int .i64 x.f2) ∧ w'.cell? ⟨w.heap.size, 0, none⟩ = some (.string what) ∧ w'.cell? ⟨w.heap.size, 1, none⟩ = some (.bool alone)) (ds := [6]) #[false, false, false, false, false, false, false] (by kernel_rfl) rfl rfl ⟨cell_dr m72, cell_dr r70, cell_dr r71⟩ (fun hHeld => ?_)
    refine pure_ (i := 0) (N := some 113) (v := ?_) (a' := ?_) #[true, false, false, false, false, false, false] rfl rfl (by kernel_rfl) (fun _ _ _ h => h) (Or.inl ⟨by rfl, ?_⟩) ?_ ?_
    rotate_left
    · intro w'
      go_simp
      with_reducible rfl
    rotate_left
    · simp only [Act.put, List.setIfInBounds_toArray, List.set_cons_zero, List.set_cons_succ, i64_w, i32_w]
      rfl
    refine take_ (i := 1) (N := some 114) (v := ?_) (a' := ?_) #[true, true, false, false, false, false, false] rfl rfl (by kernel_rfl) (fun _ _ _ h => h) (Or.inl ⟨by rfl, ?_⟩) hHeld ?_ ?_
    rotate_left
    · rintro w' ⟨s0, s1, s2⟩
      go_simp
      with_reducible rfl
    rotate_left
    · simp only [Act.put, List.setIfInBounds_toArray, List.set_cons_zero, List.set_cons_succ, i64_w, i32_w]
      rfl
    refine take_ (i := 2) (N := some 115) (v := ?_) (a' := ?_) #[true, true, true, false, false, false, false] rfl rfl (by kernel_rfl) (fun _ _ _ h => h) (Or.inl ⟨by rfl, ?_⟩) hHeld ?_ ?_
    rotate_left
    · rintro w' ⟨s0, s1, s2⟩
      go_simp
      with_reducible rfl
    rotate_left
    · simp only [Act.put, List.setIfInBounds_toArray, List.set_cons_zero, List.set_cons_succ, i64_w, i32_w]
      rfl
    refine one_ (i := 3) (N := some 116) #[true, true, true, true, false, false, false] rfl rfl (by kernel_rfl) (by decide) (fun K hK => ?_)
    refine goes_ Try.func19 (by kernel_rfl) rfl #[.agg #[.string what, .bool alone]] (by rfl) rfl rfl (by simp only [List.map_toArray, List.map_cons, List.map_nil]; rfl) ?_
    with_reducible refine (how_calls what alone _).mono ?_
    rintro e w8 ⟨rfl, hb8⟩
    refine ⟨_, rfl, ?_⟩
    have hc8 : w8.heap[hb]? = some (.cells #[.string x.f0, .slice A2 n2 c2, .int .i64 x.f2] 51 (0, 0)) := blk_below (show W7.drew.heap[hb]? = _ from HC7.out) hb8
    have n28 : w8.cell? ⟨hb, 2, none⟩ = some (.int .i64 x.f2) := blk_cell hc8 2
    have fn28 : w8.frozen? ⟨hb, 2, none⟩ = false := blk_frozen hc8 2
    refine hK.out _ _ ⟨pw_cell_below hb8 hHeld.1, pw_cell_below hb8 hHeld.2.1, pw_cell_below hb8 hHeld.2.2⟩ (fun hHeld => ?_)
    clear hK K
    refine norm_ (a' := ?_) ?_ ?_
    rotate_left
    · show Act.put _ (some 116) _ = _
      simp only [Act.put, List.setIfInBounds_toArray, List.set_cons_zero, List.set_cons_succ, i64_w, i32_w]
      rfl
    refine pure_ (i := 4) (N := some 117) (v := ?_) (a' := ?_) #[true, true, true, true, true, false, false] rfl rfl (by kernel_rfl) (fun _ _ _ h => h) (Or.inl ⟨by rfl, ?_⟩) ?_ ?_
    rotate_left
    · intro w'
      go_simp
      with_reducible rfl
    rotate_left
    · simp only [Act.put, List.setIfInBounds_toArray, List.set_cons_zero, List.set_cons_succ, i64_w, i32_w]
      rfl
    refine pure_ (i := 5) (N := some 118) (v := ?_) (a' := ?_) #[true, true, true, true, true, true, false] rfl rfl (by kernel_rfl) (fun _ _ _ h => h) (Or.inl ⟨by rfl, ?_⟩) ?_ ?_
    rotate_left
    · intro w'
      go_simp
      with_reducible rfl
    rotate_left
    · simp only [Act.put, List.setIfInBounds_toArray, List.set_cons_zero, List.set_cons_succ, i64_w, i32_w]
      rfl
    refine last_ (i := 6) (N := none) #[true, true, true, true, true, true, true] rfl rfl (by kernel_rfl) (by decide) (fun K hK => ?_)
    refine skip_ (w1 := ?_) (by rfl) rfl ?_ ?_
    rotate_left
    · go_simp
      rfl
    refine hK.out _ _ ?_
    clear hK K
    refine done_ (by kernel_rfl) ?_
    have B8 := Aside0.mk (below_step (below_drew1 (Below.refl _ _)) hb8)
    have HC8 := Aside0.mk hc8
    clear hc8 n28 fn28 hHeld hb8 m72 r70 r71
    obtain ⟨mm, hmm, hmx⟩ : ∃ mm, (if x.f2 < howI alone then howI alone else x.f2) = mm ∧ max x.f2 (howI alone) = mm := ⟨_, rfl, by split <;> omega⟩
    rw [hmm]
    obtain ⟨W9, hW9⟩ : ∃ W, w8.setCell ⟨hb, 2, none⟩ (.int .i64 mm) = W := ⟨_, rfl⟩
    rw [hW9]
    have HC9 := Aside0.mk (show W9.heap[hb]? = some (.cells #[.string x.f0, .slice A2 n2 c2, .int .i64 mm] 51 (0, 0)) from by rw [← hW9]; exact blk_set HC8.out 2 (.int .i64 mm))
    have KEEP := Aside0.mk (show ∀ q, q < W7.heap.size → q ≠ hb → W9.heap[q]? = W7.heap[q]? from fun q hq hn => by rw [← hW9]; exact (Below.heap_setCell _ _ _ _ hn).trans (B8.out.block q hq))
    have H9 := Aside0.mk (show Tab W9 p (.slice (some ⟨gR, 0, none⟩) l.length c') l from
      ⟨(KEEP.out p.g (blk_lt H7.out.cells) (Ne.symm HBG.out)).trans H7.out.cells, Kd.R_mono (Kd.R_step H7R.out (fun q hq hl => KEEP.out q hl hq.2)) (fun q hq => hq.1), H7.out.bg, H7.out.small, H7.out.wide⟩)
    have R29 := Aside0.mk (show Kd.R (Kd.int .i64) 3 W9 p.B (fun q => q ≠ p.g ∧ q ≠ gR) (.slice A2 n2 c2) ws2 from Kd.R_mono (Kd.R_step R2.out (fun q hq hl => KEEP.out q hl hq.2.2)) (fun q hq => ⟨hq.1, hq.2.1⟩))
    have BX9 := Aside0.mk (show Below w.heap.size w W9 from by rw [← hW9]; exact (BW7.out.trans (B8.out.mono BW7.out.size)).setCell (p := ⟨hb, 2, none⟩) HBW.out _)
    have BW9 := Aside0.mk (BX9.out.mono HB0.out)
    clear hW9 KEEP H7 H7R R2 BW7 B8 HC8 HC7
    have cg9 : W9.cell? ⟨p.g, 0, none⟩ = some (.slice (some ⟨gR, 0, none⟩) l.length c') := blk_cell H9.out.cells 0
    have e90 : W9.cell? ⟨hb, 0, none⟩ = some (.string x.f0) := blk_cell HC9.out 0
    have e91 : W9.cell? ⟨hb, 1, none⟩ = some (.slice A2 n2 c2) := blk_cell HC9.out 1
    have e92 : W9.cell? ⟨hb, 2, none⟩ = some (.int .i64 mm) := blk_cell HC9.out 2
    obtain ⟨A9, d9, v0, v1, v2, _, _, _⟩ := tab_at H9.out k hk
    have fz : ∀ i, W9.frozen? ⟨gR, i, none⟩ = false := row_frozen H9.out.row
    have fz0 := fz (k * 3)
    have fz1 := fz (k * 3 + 1)
    have fz2 := fz (k * 3 + 2)
    have T9 := Aside0.mk (tab_elem2 H9.out k hk x XX.out R29.out LW.out mm)
    have GB := Aside0.mk (show p.B ≤ gR from Kd.R_base H9.out.row gR (by simp [Value.ownBlock]))
    clear fz
    go_wp2
    refine start_ (n := 8) (S := fun w' => w'.cell? ⟨p.g, 0, none⟩ = some (.slice (some ⟨gR, 0, none⟩) l.length c') ∧ w'.cell? ⟨hb, 0, none⟩ = some (.string x.f0) ∧ w'.cell? ⟨hb, 1, none⟩ = some (.slice A2 n2 c2) ∧ w'.cell? ⟨hb, 2, none⟩ = some (.int .i64 mm)) (ds := [7]) #[false, false, false, false, false, false, false, false] (by kernel_rfl) rfl rfl ⟨cell_dr cg9, cell_dr e90, cell_dr e91, cell_dr e92⟩ (fun hHeld => ?_)
    refine pure_ (i := 0) (N := some 119) (v := ?_) (a' := ?_) #[true, false, false, false, false, false, false, false] rfl rfl (by kernel_rfl) (fun _ _ _ h => h) (Or.inl ⟨by rfl, ?_⟩) ?_ ?_
    rotate_left
    · intro w'
      go_simp
      with_reducible rfl
    rotate_left
    · simp only [Act.put, List.setIfInBounds_toArray, List.set_cons_zero, List.set_cons_succ, i64_w, i32_w]
      rfl
    refine pure_ (i := 1) (N := some 120) (v := ?_) (a' := ?_) #[true, true, false, false, false, false, false, false] rfl rfl (by kernel_rfl) (fun _ _ _ h => h) (Or.inl ⟨by rfl, ?_⟩) ?_ ?_
    rotate_left
    · intro w'
      go_simp
      with_reducible rfl
    rotate_left
    · simp only [Act.put, List.setIfInBounds_toArray, List.set_cons_zero, List.set_cons_succ, i64_w, i32_w]
      rfl
    refine pure_ (i := 2) (N := some 121) (v := ?_) (a' := ?_) #[true, true, true, false, false, false, false, false] rfl rfl (by kernel_rfl) (fun _ _ _ h => h) (Or.inl ⟨by rfl, ?_⟩) ?_ ?_
    rotate_left
    · intro w'
      go_simp
      with_reducible rfl
    rotate_left
    · simp only [Act.put, List.setIfInBounds_toArray, List.set_cons_zero, List.set_cons_succ, i64_w, i32_w]
      rfl
    refine pure_ (i := 4) (N := some 123) (v := ?_) (a' := ?_) #[true, true, true, false, true, false, false, false] rfl rfl (by kernel_rfl) (fun _ _ _ h => h) (Or.inl ⟨by rfl, ?_⟩) ?_ ?_
    rotate_left
    · intro w'
      go_simp
      with_reducible rfl
    rotate_left
    · simp only [Act.put, List.setIfInBounds_toArray, List.set_cons_zero, List.set_cons_succ, i64_w, i32_w]
      rfl
    refine take_ (i := 3) (N := some 122) (v := ?_) (a' := ?_) #[true, true, true, true, true, false, false, false] rfl rfl (by kernel_rfl) (fun _ _ _ h => h) (Or.inl ⟨by rfl, ?_⟩) hHeld ?_ ?_
    rotate_left
    · rintro w' ⟨s0, s1, s2, s3⟩
      go_simp
      with_reducible rfl
    rotate_left
    · simp only [Act.put, List.setIfInBounds_toArray, List.set_cons_zero, List.set_cons_succ, i64_w, i32_w]
      rfl
    refine take_ (i := 5) (N := some 124) (v := ?_) (a' := ?_) #[true, true, true, true, true, true, false, false] rfl rfl (by kernel_rfl) (fun _ _ _ h => h) (Or.inl ⟨by rfl, ?_⟩) hHeld ?_ ?_
    rotate_left
    · rintro w' ⟨s0, s1, s2, s3⟩
      go_simp
      with_reducible rfl
    rotate_left
    · simp only [Act.put, List.setIfInBounds_toArray, List.set_cons_zero, List.set_cons_succ, i64_w, i32_w]
      rfl
    refine pure_ (i := 6) (N := some 125) (v := ?_) (a' := ?_) #[true, true, true, true, true, true, true, false] rfl rfl (by kernel_rfl) (fun _ _ _ h => h) (Or.inl ⟨by rfl, ?_⟩) ?_ ?_
    rotate_left
    · intro w'
      go_simp
      with_reducible rfl
    rotate_left
    · simp only [Act.put, List.setIfInBounds_toArray, List.set_cons_zero, List.set_cons_succ, i64_w, i32_w]
      rfl
    refine last_ (i := 7) (N := none) #[true, true, true, true, true, true, true, true] rfl rfl (by kernel_rfl) (by decide) (fun K hK => ?_)
    refine skip_ (w1 := ?_) (by rfl) rfl ?_ ?_
    rotate_left
    · go_simp
      rfl
    refine hK.out _ _ ?_
    clear hK K
    refine done_ (by kernel_rfl) ?_
    clear hHeld cg9 e90 e91 e92 v0 v1 v2 fz0 fz1 fz2
    go_wp2
    go_ret2
    exact ⟨rfl, ⟨_, by rw [WS.out, hmx]; exact T9.out.below (below_drew1 (Below.refl _ _))⟩, (((BW9.out.drew.setCell (p := ⟨gR, k * 3, none⟩) GB.out _).setCell (p := ⟨gR, k * 3 + 1, none⟩) GB.out _).setCell (p := ⟨gR, k * 3 + 2, none⟩) GB.out _), fun q hq h1 h2 => (Below.heap_setCell _ _ _ _ (fun e => h2 (by rw [e]; rfl))).trans ((Below.heap_setCell _ _ _ _ (fun e => h2 (by rw [e]; rfl))).trans ((Below.heap_setCell _ _ _ _ (fun e => h2 (by rw [e]; rfl))).trans (BX9.out.drew.block q hq)))⟩
  | false =>
    go_wp2_with (first | (go_at_call 12; fail))
    refine (held_calls H5.out who).mono ?_
    rintro e w6 ⟨rfl, hb⟩
    have HB6 := Aside0.mk (below_step HB5.out hb)
    have H6 := Aside0.mk (H5.out.below hb)
    have a0 := pw_cell_below hb u0
    have a1 := pw_cell_below hb u1
    have a2 := pw_cell_below hb u2
    have b0_ := pw_cell_below hb r0
    have b1_ := pw_cell_below hb r1
    have cg6 := pw_cell_below hb cg5
    have HC6 := Aside0.mk (Kd.C_below HC5.out hb)
    have HR6 := Aside0.mk (Kd.R_below HR5.out hb)
    have hd := HDD.out
    obtain ⟨nh, hnh⟩ : ∃ nh, held l who = nh := ⟨_, rfl⟩
    rw [hnh] at hd ⊢
    have d3 : decide ((512 : Int) ≤ (nh : Int)) = false := decide_eq_false (by omega)
    have d4 : decide (512 ≤ nh) = false := decide_eq_false (by omega)
    clear hb hnh HDD u0 u1 u2 r0 r1 cg5 HC5 HR5 H5 hd
    go_wp2_with (first | (go_at_call 20; fail))
    have hn6 := heap_alloc_new w6 (.cells #[.string x.f0, .slice (some ⟨gA, 0, none⟩) ws.length c1, .int .i64 x.f2] 51)
    have N6 := Aside0.mk hn6
    clear hn6
    refine (search_calls _ gA c1 ws who (Kd.C_alloc HC6.out _) (Nat.lt_of_lt_of_le HWL.out (by decide)) HRISE.out).mono ?_
    rw [BBQ.out]
    rintro e wa ⟨rfl, hb⟩
    have BA := Aside0.mk (show Below w6.heap.size w6 wa from below_step (below_alloc (Below.refl _ _) _) hb)
    have Na := Aside0.mk (blk_below N6.out hb)
    have m1 : wa.cell? ⟨w6.heap.size, 1, none⟩ = some (.slice (some ⟨gA, 0, none⟩) ws.length c1) := blk_cell Na.out 1
    clear hb N6 a0 a1 a2
    obtain ⟨at_, hat⟩ : ∃ at_, ws.countP (· < who) = at_ := ⟨_, rfl⟩
    have AT := Aside0.mk hat
    have ATL := Aside0.mk (show at_ ≤ ws.length from hat ▸ List.countP_le_length)
    rw [hat]
    clear hat
    go_wp2_with (first | (go_at_call 15; fail))
    refine (clone_calls (some ⟨gA, 0, none⟩) c1 ws wa (Kd.C_below HC6.out BA.out) (Nat.lt_of_lt_of_le HWL.out (by decide))).mono ?_
    rintro e wb ⟨vb, rfl, hRb, hb⟩
    obtain ⟨Ab, cb, rfl, _, _⟩ := Kd.R_reads hRb
    have BBb := Aside0.mk (below_step BA.out hb)
    have Nb := Aside0.mk (blk_below Na.out hb)
    have mb1 := pw_cell_below hb m1
    have HRb := Aside0.mk hRb
    have LEb := Aside0.mk hb.size
    clear hb hRb m1
    go_wp2_with (first | (go_at_call 21; fail))
    have hnq := heap_alloc_new wb (.cells #[.int .i64 who] 3)
    refine (insert_calls _ wa.heap.size Ab cb ws (Kd.R_below HRb.out (below_alloc (Below.refl _ _) _)) HWS.out (Nat.lt_of_lt_of_le HWL.out (by decide)) at_ ATL.out wb.heap.size who hnq (fun e => Nat.lt_irrefl _ (Kd.R_lt HRb.out _ e)) (by rw [World.size_alloc]; have := LEb.out; omega)).mono ?_
    rintro e wc ⟨vc, rfl, hRc, hbc⟩
    obtain ⟨Ac, cc, rfl, _, _⟩ := Kd.R_reads hRc
    have hbc2 : Below wa.heap.size wb wc := (below_alloc (Below.refl _ _) _ |>.mono LEb.out).trans hbc
    have LA := Aside0.mk (show w6.heap.size < wa.heap.size from blk_lt Na.out)
    have BC := Aside0.mk (show Below w6.heap.size w6 wc from BBb.out.trans (hbc2.mono (Nat.le_of_lt LA.out)))
    have Nc := Aside0.mk (show wc.heap[w6.heap.size]? = some (.cells #[.string x.f0, .slice (some ⟨gA, 0, none⟩) ws.length c1, .int .i64 x.f2] 51 (0, 0)) from (hbc2.block _ LA.out).trans Nb.out)
    have mc1 : wc.cell? ⟨w6.heap.size, 1, none⟩ = some (.slice (some ⟨gA, 0, none⟩) ws.length c1) := blk_cell Nc.out 1
    have fc1 : wc.frozen? ⟨w6.heap.size, 1, none⟩ = false := blk_frozen Nc.out 1
    have HRc := Aside0.mk hRc
    clear hRc hbc hbc2 hnq mb1
    go_wp2
    obtain ⟨W7, hW7⟩ : ∃ W, wc.setCell ⟨w6.heap.size, 1, none⟩ (.slice Ac (insL ws at_ who).length cc) = W := ⟨_, rfl⟩
    rw [hW7]
    have FAR := Aside0.mk (show ∀ q, q ≠ w6.heap.size → W7.heap[q]? = wc.heap[q]? from fun q hq => by rw [← hW7]; exact Below.heap_setCell _ _ _ _ hq)
    have BB := Aside0.mk (show Below w6.heap.size w6 W7 from by rw [← hW7]; exact BC.out.setCell (p := ⟨w6.heap.size, 1, none⟩) (Nat.le_refl _) _)
    have HC7 := Aside0.mk (show W7.heap[w6.heap.size]? = some (.cells #[.string x.f0, .slice Ac (insL ws at_ who).length cc, .int .i64 x.f2] 51 (0, 0)) from by rw [← hW7]; exact blk_set Nc.out 1 _)
    have R2 := Aside0.mk (show Kd.R (Kd.int .i64) 3 W7 p.B (fun q => q ≠ p.g ∧ q ≠ gR ∧ q ≠ w6.heap.size) (.slice Ac (insL ws at_ who).length cc) (insL ws at_ who) from by
      have LAo := LA.out
      have h1 := Kd.R_base HRc.out
      have h2 : Kd.R (Kd.int .i64) 3 wc wa.heap.size (fun q => wa.heap.size ≤ q) (.slice Ac (insL ws at_ who).length cc) (insL ws at_ who) := Kd.R_mono (Kd.R_tight rfl HRc.out) (fun k hk => h1 k hk.symm)
      have h3 := Kd.R_step (w1 := W7) h2 (fun q hq hl => FAR.out q (by omega))
      exact Kd.R_mono (Kd.R_lower h3 (by have := HB0.out; have := HB6.out.size; omega)) (fun q hq => ⟨fun e => by have := WLT.out; have := HB6.out.size; omega, fun e => by have := GRL.out; have := HB6.out.size; omega, fun e => by omega⟩))
    clear hW7 FAR HRc Nc mc1 fc1 BC BBb Nb HRb LEb BA Na
    obtain ⟨hb, hhb⟩ : ∃ hb, w6.heap.size = hb := ⟨_, rfl⟩
    rw [hhb] at HC7 R2 ⊢
    obtain ⟨A2, n2, c2, ws2, HE, WS, LW⟩ : ∃ A2 n2 c2 ws2, Aside0 (Value.slice Ac (insL ws at_ who).length cc = .slice A2 n2 c2 ∧ insL ws at_ who = ws2) ∧ Aside0 (joined ws who = ws2) ∧ Aside0 (ws2.length < 1000) :=
      ⟨Ac, (insL ws at_ who).length, cc, insL ws at_ who, .mk ⟨rfl, rfl⟩, .mk (by unfold joined; rw [BBQ.out, AT.out]; rfl), .mk (by rw [insL_length _ _ _ ATL.out]; have := HWL.out; omega)⟩
    rw [HE.out.1, HE.out.2] at R2
    rw [HE.out.1] at HC7 ⊢
    have m72 : W7.cell? ⟨hb, 2, none⟩ = some (.int .i64 x.f2) := blk_cell HC7.out 2
    have r70 := pw_cell_below BB.out b0_
    have r71 := pw_cell_below BB.out b1_
    have H7 := Aside0.mk (H6.out.below BB.out)
    have HBG := Aside0.mk (show hb ≠ p.g from by rw [← hhb]; exact fun e => by have := HB6.out.size; have := WLT.out; omega)
    have H7R := Aside0.mk (show Kd.R k51 51 W7 p.B (fun q => q ≠ p.g ∧ q ≠ hb) (.slice (some ⟨gR, 0, none⟩) l.length c') l from Kd.R_mono (Kd.R_below (Kd.R_bound H6.out.row) BB.out) (fun q hq => ⟨hq.1, by rw [← hhb]; exact fun e => by have := hq.2.2.1; omega⟩))
    have BW7 := Aside0.mk (show Below w.heap.size w W7 from below_step HB6.out BB.out)
    have HBW := Aside0.mk (show w.heap.size ≤ hb from by rw [← hhb]; exact HB6.out.size)
    have HBB := Aside0.mk (show p.B ≤ hb from by rw [← hhb]; exact Nat.le_trans HB0.out HB6.out.size)
    clear b0_ b1_ cg6 HR6 HC6 H6 BB HE
    go_wp2
    refine start_ (n := 7) (S := fun w' => w'.cell? ⟨hb, 2, none⟩ = some (.int .i64 x.f2) ∧ w'.cell? ⟨w.heap.size, 0, none⟩ = some (.string what) ∧ w'.cell? ⟨w.heap.size, 1, none⟩ = some (.bool alone)) (ds := [6]) #[false, false, false, false, false, false, false] (by kernel_rfl) rfl rfl ⟨cell_dr m72, cell_dr r70, cell_dr r71⟩ (fun hHeld => ?_)
    refine pure_ (i := 0) (N := some 113) (v := ?_) (a' := ?_) #[true, false, false, false, false, false, false] rfl rfl (by kernel_rfl) (fun _ _ _ h => h) (Or.inl ⟨by rfl, ?_⟩) ?_ ?_
    rotate_left
    · intro w'
      go_simp
      with_reducible rfl
    rotate_left
    · simp only [Act.put, List.setIfInBounds_toArray, List.set_cons_zero, List.set_cons_succ, i64_w, i32_w]
      rfl
    refine take_ (i := 1) (N := some 114) (v := ?_) (a' := ?_) #[true, true, false, false, false, false, false] rfl rfl (by kernel_rfl) (fun _ _ _ h => h) (Or.inl ⟨by rfl, ?_⟩) hHeld ?_ ?_
    rotate_left
    · rintro w' ⟨s0, s1, s2⟩
      go_simp
      with_reducible rfl
    rotate_left
    · simp only [Act.put, List.setIfInBounds_toArray, List.set_cons_zero, List.set_cons_succ, i64_w, i32_w]
      rfl
    refine take_ (i := 2) (N := some 115) (v := ?_) (a' := ?_) #[true, true, true, false, false, false, false] rfl rfl (by kernel_rfl) (fun _ _ _ h => h) (Or.inl ⟨by rfl, ?_⟩) hHeld ?_ ?_
    rotate_left
    · rintro w' ⟨s0, s1, s2⟩
      go_simp
      with_reducible rfl
    rotate_left
    · simp only [Act.put, List.setIfInBounds_toArray, List.set_cons_zero, List.set_cons_succ, i64_w, i32_w]
      rfl
    refine one_ (i := 3) (N := some 116) #[true, true, true, true, false, false, false] rfl rfl (by kernel_rfl) (by decide) (fun K hK => ?_)
    refine goes_ Try.func19 (by kernel_rfl) rfl #[.agg #[.string what, .bool alone]] (by rfl) rfl rfl (by simp only [List.map_toArray, List.map_cons, List.map_nil]; rfl) ?_
    with_reducible refine (how_calls what alone _).mono ?_
    rintro e w8 ⟨rfl, hb8⟩
    refine ⟨_, rfl, ?_⟩
    have hc8 : w8.heap[hb]? = some (.cells #[.string x.f0, .slice A2 n2 c2, .int .i64 x.f2] 51 (0, 0)) := blk_below (show W7.drew.heap[hb]? = _ from HC7.out) hb8
    have n28 : w8.cell? ⟨hb, 2, none⟩ = some (.int .i64 x.f2) := blk_cell hc8 2
    have fn28 : w8.frozen? ⟨hb, 2, none⟩ = false := blk_frozen hc8 2
    refine hK.out _ _ ⟨pw_cell_below hb8 hHeld.1, pw_cell_below hb8 hHeld.2.1, pw_cell_below hb8 hHeld.2.2⟩ (fun hHeld => ?_)
    clear hK K
    refine norm_ (a' := ?_) ?_ ?_
    rotate_left
    · show Act.put _ (some 116) _ = _
      simp only [Act.put, List.setIfInBounds_toArray, List.set_cons_zero, List.set_cons_succ, i64_w, i32_w]
      rfl
    refine pure_ (i := 4) (N := some 117) (v := ?_) (a' := ?_) #[true, true, true, true, true, false, false] rfl rfl (by kernel_rfl) (fun _ _ _ h => h) (Or.inl ⟨by rfl, ?_⟩) ?_ ?_
    rotate_left
    · intro w'
      go_simp
      with_reducible rfl
    rotate_left
    · simp only [Act.put, List.setIfInBounds_toArray, List.set_cons_zero, List.set_cons_succ, i64_w, i32_w]
      rfl
    refine pure_ (i := 5) (N := some 118) (v := ?_) (a' := ?_) #[true, true, true, true, true, true, false] rfl rfl (by kernel_rfl) (fun _ _ _ h => h) (Or.inl ⟨by rfl, ?_⟩) ?_ ?_
    rotate_left
    · intro w'
      go_simp
      with_reducible rfl
    rotate_left
    · simp only [Act.put, List.setIfInBounds_toArray, List.set_cons_zero, List.set_cons_succ, i64_w, i32_w]
      rfl
    refine last_ (i := 6) (N := none) #[true, true, true, true, true, true, true] rfl rfl (by kernel_rfl) (by decide) (fun K hK => ?_)
    refine skip_ (w1 := ?_) (by rfl) rfl ?_ ?_
    rotate_left
    · go_simp
      rfl
    refine hK.out _ _ ?_
    clear hK K
    refine done_ (by kernel_rfl) ?_
    have B8 := Aside0.mk (below_step (below_drew1 (Below.refl _ _)) hb8)
    have HC8 := Aside0.mk hc8
    clear hc8 n28 fn28 hHeld hb8 m72 r70 r71
    obtain ⟨mm, hmm, hmx⟩ : ∃ mm, (if x.f2 < howI alone then howI alone else x.f2) = mm ∧ max x.f2 (howI alone) = mm := ⟨_, rfl, by split <;> omega⟩
    rw [hmm]
    obtain ⟨W9, hW9⟩ : ∃ W, w8.setCell ⟨hb, 2, none⟩ (.int .i64 mm) = W := ⟨_, rfl⟩
    rw [hW9]
    have HC9 := Aside0.mk (show W9.heap[hb]? = some (.cells #[.string x.f0, .slice A2 n2 c2, .int .i64 mm] 51 (0, 0)) from by rw [← hW9]; exact blk_set HC8.out 2 (.int .i64 mm))
    have KEEP := Aside0.mk (show ∀ q, q < W7.heap.size → q ≠ hb → W9.heap[q]? = W7.heap[q]? from fun q hq hn => by rw [← hW9]; exact (Below.heap_setCell _ _ _ _ hn).trans (B8.out.block q hq))
    have H9 := Aside0.mk (show Tab W9 p (.slice (some ⟨gR, 0, none⟩) l.length c') l from
      ⟨(KEEP.out p.g (blk_lt H7.out.cells) (Ne.symm HBG.out)).trans H7.out.cells, Kd.R_mono (Kd.R_step H7R.out (fun q hq hl => KEEP.out q hl hq.2)) (fun q hq => hq.1), H7.out.bg, H7.out.small, H7.out.wide⟩)
    have R29 := Aside0.mk (show Kd.R (Kd.int .i64) 3 W9 p.B (fun q => q ≠ p.g ∧ q ≠ gR) (.slice A2 n2 c2) ws2 from Kd.R_mono (Kd.R_step R2.out (fun q hq hl => KEEP.out q hl hq.2.2)) (fun q hq => ⟨hq.1, hq.2.1⟩))
    have BX9 := Aside0.mk (show Below w.heap.size w W9 from by rw [← hW9]; exact (BW7.out.trans (B8.out.mono BW7.out.size)).setCell (p := ⟨hb, 2, none⟩) HBW.out _)
    have BW9 := Aside0.mk (BX9.out.mono HB0.out)
    clear hW9 KEEP H7 H7R R2 BW7 B8 HC8 HC7
    have cg9 : W9.cell? ⟨p.g, 0, none⟩ = some (.slice (some ⟨gR, 0, none⟩) l.length c') := blk_cell H9.out.cells 0
    have e90 : W9.cell? ⟨hb, 0, none⟩ = some (.string x.f0) := blk_cell HC9.out 0
    have e91 : W9.cell? ⟨hb, 1, none⟩ = some (.slice A2 n2 c2) := blk_cell HC9.out 1
    have e92 : W9.cell? ⟨hb, 2, none⟩ = some (.int .i64 mm) := blk_cell HC9.out 2
    obtain ⟨A9, d9, v0, v1, v2, _, _, _⟩ := tab_at H9.out k hk
    have fz : ∀ i, W9.frozen? ⟨gR, i, none⟩ = false := row_frozen H9.out.row
    have fz0 := fz (k * 3)
    have fz1 := fz (k * 3 + 1)
    have fz2 := fz (k * 3 + 2)
    have T9 := Aside0.mk (tab_elem2 H9.out k hk x XX.out R29.out LW.out mm)
    have GB := Aside0.mk (show p.B ≤ gR from Kd.R_base H9.out.row gR (by simp [Value.ownBlock]))
    clear fz
    go_wp2
    refine start_ (n := 8) (S := fun w' => w'.cell? ⟨p.g, 0, none⟩ = some (.slice (some ⟨gR, 0, none⟩) l.length c') ∧ w'.cell? ⟨hb, 0, none⟩ = some (.string x.f0) ∧ w'.cell? ⟨hb, 1, none⟩ = some (.slice A2 n2 c2) ∧ w'.cell? ⟨hb, 2, none⟩ = some (.int .i64 mm)) (ds := [7]) #[false, false, false, false, false, false, false, false] (by kernel_rfl) rfl rfl ⟨cell_dr cg9, cell_dr e90, cell_dr e91, cell_dr e92⟩ (fun hHeld => ?_)
    refine pure_ (i := 0) (N := some 119) (v := ?_) (a' := ?_) #[true, false, false, false, false, false, false, false] rfl rfl (by kernel_rfl) (fun _ _ _ h => h) (Or.inl ⟨by rfl, ?_⟩) ?_ ?_
    rotate_left
    · intro w'
      go_simp
      with_reducible rfl
    rotate_left
    · simp only [Act.put, List.setIfInBounds_toArray, List.set_cons_zero, List.set_cons_succ, i64_w, i32_w]
      rfl
    refine pure_ (i := 1) (N := some 120) (v := ?_) (a' := ?_) #[true, true, false, false, false, false, false, false] rfl rfl (by kernel_rfl) (fun _ _ _ h => h) (Or.inl ⟨by rfl, ?_⟩) ?_ ?_
    rotate_left
    · intro w'
      go_simp
      with_reducible rfl
    rotate_left
    · simp only [Act.put, List.setIfInBounds_toArray, List.set_cons_zero, List.set_cons_succ, i64_w, i32_w]
      rfl
    refine pure_ (i := 2) (N := some 121) (v := ?_) (a' := ?_) #[true, true, true, false, false, false, false, false] rfl rfl (by kernel_rfl) (fun _ _ _ h => h) (Or.inl ⟨by rfl, ?_⟩) ?_ ?_
    rotate_left
    · intro w'
      go_simp
      with_reducible rfl
    rotate_left
    · simp only [Act.put, List.setIfInBounds_toArray, List.set_cons_zero, List.set_cons_succ, i64_w, i32_w]
      rfl
    refine pure_ (i := 4) (N := some 123) (v := ?_) (a' := ?_) #[true, true, true, false, true, false, false, false] rfl rfl (by kernel_rfl) (fun _ _ _ h => h) (Or.inl ⟨by rfl, ?_⟩) ?_ ?_
    rotate_left
    · intro w'
      go_simp
      with_reducible rfl
    rotate_left
    · simp only [Act.put, List.setIfInBounds_toArray, List.set_cons_zero, List.set_cons_succ, i64_w, i32_w]
      rfl
    refine take_ (i := 3) (N := some 122) (v := ?_) (a' := ?_) #[true, true, true, true, true, false, false, false] rfl rfl (by kernel_rfl) (fun _ _ _ h => h) (Or.inl ⟨by rfl, ?_⟩) hHeld ?_ ?_
    rotate_left
    · rintro w' ⟨s0, s1, s2, s3⟩
      go_simp
      with_reducible rfl
    rotate_left
    · simp only [Act.put, List.setIfInBounds_toArray, List.set_cons_zero, List.set_cons_succ, i64_w, i32_w]
      rfl
    refine take_ (i := 5) (N := some 124) (v := ?_) (a' := ?_) #[true, true, true, true, true, true, false, false] rfl rfl (by kernel_rfl) (fun _ _ _ h => h) (Or.inl ⟨by rfl, ?_⟩) hHeld ?_ ?_
    rotate_left
    · rintro w' ⟨s0, s1, s2, s3⟩
      go_simp
      with_reducible rfl
    rotate_left
    · simp only [Act.put, List.setIfInBounds_toArray, List.set_cons_zero, List.set_cons_succ, i64_w, i32_w]
      rfl
    refine pure_ (i := 6) (N := some 125) (v := ?_) (a' := ?_) #[true, true, true, true, true, true, true, false] rfl rfl (by kernel_rfl) (fun _ _ _ h => h) (Or.inl ⟨by rfl, ?_⟩) ?_ ?_
    rotate_left
    · intro w'
      go_simp
      with_reducible rfl
    rotate_left
    · simp only [Act.put, List.setIfInBounds_toArray, List.set_cons_zero, List.set_cons_succ, i64_w, i32_w]
      rfl
    refine last_ (i := 7) (N := none) #[true, true, true, true, true, true, true, true] rfl rfl (by kernel_rfl) (by decide) (fun K hK => ?_)
    refine skip_ (w1 := ?_) (by rfl) rfl ?_ ?_
    rotate_left
    · go_simp
      rfl
    refine hK.out _ _ ?_
    clear hK K
    refine done_ (by kernel_rfl) ?_
    clear hHeld cg9 e90 e91 e92 v0 v1 v2 fz0 fz1 fz2
    go_wp2
    go_ret2
    exact ⟨rfl, ⟨_, by rw [WS.out, hmx]; exact T9.out.below (below_drew1 (Below.refl _ _))⟩, (((BW9.out.drew.setCell (p := ⟨gR, k * 3, none⟩) GB.out _).setCell (p := ⟨gR, k * 3 + 1, none⟩) GB.out _).setCell (p := ⟨gR, k * 3 + 2, none⟩) GB.out _), fun q hq h1 h2 => (Below.heap_setCell _ _ _ _ (fun e => h2 (by rw [e]; rfl))).trans ((Below.heap_setCell _ _ _ _ (fun e => h2 (by rw [e]; rfl))).trans ((Below.heap_setCell _ _ _ _ (fun e => h2 (by rw [e]; rfl))).trans (BX9.out.drew.block q hq)))⟩
end Go.Proofs.Ytonbonailghjjaa.Lk
