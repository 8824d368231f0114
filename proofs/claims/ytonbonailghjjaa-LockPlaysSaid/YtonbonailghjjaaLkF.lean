/- A thing taken again by the one that holds it, walked. -/
import Derived.Test.YtonbonailghjjaaLkE
import Derived.Deep.RegionWith
namespace Go.Proofs.Ytonbonailghjjaa.Lk
open Go.RowKit Go.Proofs.YtonbonailghjjaaW.PrintWords Go.Proofs.YtonbonailghjjaaW.PrintLast Go.Proofs.YtonbonailghjjaaW.PrintMore Go.Proofs.Ytonbonailghjjaa.XB Go.Proofs.Ytonbonailghjjaa.PLockMost
attribute [local go_sem] max2_int min2_int max_two min_two max_three min_three max_four min_four
set_option linter.unusedVariables false
set_option linter.unusedSimpArgs false
variable {w w' : World} {p : At} {rv : Value} {l : List S51}
theorem row_frozen {base g n cap : Nat} {ok : Nat → Prop} {ys : List S51} {W : World} (h : Kd.R k51 51 W base ok (.slice (some ⟨g, 0, none⟩) n cap) ys) (i : Nat) : W.frozen? ⟨g, i, none⟩ = false := by
  obtain ⟨_, inner, ho, _⟩ := h
  rcases ho.2 with ⟨h2, _⟩ | ⟨g', cap', cur, hv, _, hg, _⟩
  · cases h2
  · injection hv with e1
    injection e1 with e1
    injection e1 with e1
    subst e1
    exact blk_frozen hg i
theorem tab_elem {W : World} {gR n c : Nat} (h : Tab W p (.slice (some ⟨gR, 0, none⟩) n c) l) (k : Nat) (hk : k < l.length) (x : S51) (hx : rd_T51 l (k : Int) = x) {who : Int} (hf : x.f1 = [who]) {A1 : Option Addr} {c1 : Nat} (hw : W.cell? ⟨gR, k * 3 + 1, none⟩ = some (.slice A1 1 c1)) (m : Int) (hm : m = 0 ∨ m = 1) :
    ∃ x' : S51, Tab (((W.setCell ⟨gR, k * 3, none⟩ (.string x.f0)).setCell ⟨gR, k * 3 + 1, none⟩ (.slice A1 1 c1)).setCell ⟨gR, k * 3 + 2, none⟩ (.int .i64 m)) p (.slice (some ⟨gR, 0, none⟩) n c) (l.set k x') ∧ x'.f0 = x.f0 ∧ x'.f1 = [who] ∧ (x'.f2 = 0 ∨ x'.f2 = 1) := by
  have hn := (Kd.R_reads' h.row).1
  have k0 : (0 : Int) ≤ (k : Int) := by omega
  have k1 : (k : Int) < (n : Int) := by omega
  obtain ⟨cs, hcl, hM, hcc, _⟩ := Kd.R_elem h.row z51 (k : Int) k0 k1
  have hgd : l.getD (k : Int).toNat z51 = x := hx
  rw [hgd] at hM
  obtain ⟨v1, rfl, hR1⟩ := k51_openM hM
  have hv := hcc 1 v1 rfl
  have hv2 : W.cell? ⟨gR, k * 3 + 1, none⟩ = some v1 := hv
  rw [hw] at hv2
  obtain rfl := Option.some.inj hv2
  obtain ⟨hR, hG⟩ := Kd.R_seg h.row (k : Int) k0 k1 (c := [.string x.f0, .slice A1 1 c1, .int .i64 x.f2]) (seg := [.string x.f0, .slice A1 1 c1, .int .i64 m]) (j := 0) (x' := ⟨x.f0, x.f1, m⟩) (okp := fun q => q ≠ p.g ∧ q ≠ gR) hcl hcc (Nat.le_refl 3) (k51_mkM W p.B _ (⟨x.f0, x.f1, m⟩ : S51) hR1) (fun q hq => hq)
  have hgne : p.g ≠ gR := fun e => h.row.1 gR (by simp [Value.ownBlock]) e.symm
  refine ⟨⟨x.f0, x.f1, m⟩, ⟨?_, hR, h.bg, by rw [List.length_set]; exact h.small, fun y hy => ?_⟩, rfl, hf, hm⟩
  · exact (Below.heap_setCell _ _ _ _ hgne).trans ((Below.heap_setCell _ _ _ _ hgne).trans ((Below.heap_setCell _ _ _ _ hgne).trans h.cells))
  · rcases List.mem_or_eq_of_mem_set hy with hy | rfl
    · exact h.wide y hy
    · show x.f1.length < 1000
      rw [hf]; exact (by decide : 1 < 1000)
theorem bs_one (who : Int) : slices_BinarySearch_int_int.f 4 [who] who = some (0, true) := by
  unfold slices_BinarySearch_int_int.f
  simp [slices_BinarySearch_int_int.l0, cmp_Less_int.f, cmp_isNaN_int.f, slices_isNaN_int.f, rd, wrap64, show IntKind.u64.wrap 1 = 1 by decide]
set_option maxHeartbeats 2000000 in
set_option maxRecDepth 100000 in
theorem take_again (h : Tab w p rv l) (who : Int) (h0 : 0 ≤ who) (h1 : who < 16) (what : ByteArray) (hne : what.toList ≠ []) (alone : Bool) (hh : ∀ x ∈ l, x.f2 = 0 ∨ x.f2 = 1) (k : Nat) (hk : k < l.length) (hi : idx what l = (k : Int)) (hx : (rd_T51 l (k : Int)).f1 = [who]) :
    Calls Try.prog 8 #[.pointer (some ⟨p.g, 0, none⟩), .int .i64 who, .agg #[.string what, .bool alone]] w fun e w' => e = .returned (.tuple #[.slice none 0 0, .int .i64 0]) ∧ (∃ rv' x', Tab w' p rv' (l.set k x') ∧ x'.f0 = (rd_T51 l (k : Int)).f0 ∧ x'.f1 = [who] ∧ (x'.f2 = 0 ∨ x'.f2 = 1)) ∧ Below p.B w w' := by
  have ea : agn l who what alone = [] := by
    unfold agn
    rw [hi, if_neg (by omega)]
    split
    · rfl
    · rw [hx]; simp [but]
  have b0 := Aside0.mk (below_alloc (Below.refl w.heap.size w) (.cells #[.string what, .bool alone] 38))
  have H2 := Aside0.mk (h.below b0.out)
  have hn := heap_alloc_new w (.cells #[.string what, .bool alone] 38)
  have z0 : (w.alloc (.cells #[.string what, .bool alone] 38)).cell? ⟨w.heap.size, 0, none⟩ = some (.string what) := blk_cell hn 0
  have z1 : (w.alloc (.cells #[.string what, .bool alone] 38)).cell? ⟨w.heap.size, 1, none⟩ = some (.bool alone) := blk_cell hn 1
  have d0 : decide (who < 0) = false := decide_eq_false (by omega)
  have d1 : decide (16 ≤ who) = false := decide_eq_false (by omega)
  have s0 : what.toList.isEmpty = false := by cases hw : what.toList with | nil => exact absurd hw hne | cons _ _ => rfl
  have s1 : (what.toList == []) = false := beq_eq_false_iff_ne.mpr hne
  have HH := Aside0.mk hh
  have HI := Aside0.mk hi
  have HX := Aside0.mk hx
  have EA := Aside0.mk ea
  have GNE := Aside0.mk (show w.heap.size ≠ p.g from Nat.ne_of_gt (blk_lt h.cells))
  have OWN := Aside0.mk (show ∀ k, rv.ownBlock = some k → k < w.heap.size from Kd.R_lt h.row)
  have HB0 := Aside0.mk h.base
  clear h hn hh hi hx ea
  go_enter Try.func8, Try.ntmps8
  go_wp2_with (first | (go_at_call 17; fail))
  refine (against_calls H2.out who what alone HH.out).mono ?_
  rw [EA.out]
  rintro e w3 ⟨v3, rfl, hR, hb⟩
  obtain ⟨A3, c3, rfl, _, _⟩ := Kd.R_reads hR
  have HB3 := Aside0.mk (below_step b0.out hb)
  have H3 := Aside0.mk (H2.out.below hb)
  have y0 : w3.cell? ⟨w.heap.size, 0, none⟩ = some (.string what) := pw_cell_below hb z0
  have y1 : w3.cell? ⟨w.heap.size, 1, none⟩ = some (.bool alone) := pw_cell_below hb z1
  clear hb hR z0 z1
  go_wp2_with (first | (go_at_call 18; fail))
  refine (find_calls H3.out what).mono ?_
  rw [HI.out]
  rintro e w4 ⟨rfl, hb⟩
  have HB4 := Aside0.mk (below_step HB3.out hb)
  have H4 := Aside0.mk (H3.out.below hb)
  have x0 : w4.cell? ⟨w.heap.size, 0, none⟩ = some (.string what) := pw_cell_below hb y0
  have x1 : w4.cell? ⟨w.heap.size, 1, none⟩ = some (.bool alone) := pw_cell_below hb y1
  clear hb y0 y1
  have k0 : (0 : Int) ≤ (k : Int) := by omega
  have k1 : (k : Int) < (l.length : Int) := by omega
  have k2 : ¬ (k : Int) < 0 := by omega
  have k3 : decide ((k : Int) < 0) = false := decide_eq_false k2
  have k4 : decide ((0 : Int) ≤ (k : Int)) = true := decide_eq_true k0
  obtain ⟨A', c', hrv', _, hC⟩ := Kd.R_reads H4.out.row
  subst hrv'
  obtain ⟨ad, A1, c1, hA, t0, t1, t2, hlen, hC1⟩ := at_T51 hC (k : Int) k0 k1
  rw [Int.toNat_natCast] at t0 t1 t2
  subst hA
  obtain ⟨x, hx⟩ : ∃ x, rd_T51 l (k : Int) = x := ⟨_, rfl⟩
  have hf1 := HX.out
  rw [hx] at t0 t1 t2 hlen hC1 hf1
  rw [hf1] at t1 hC1 hlen
  have XX := Aside0.mk hx
  have hmem : x ∈ l := by
    have e : rd_T51 l (k : Int) = l[k] := by simp [rd_T51, List.getD_eq_getElem?_getD, List.getElem?_eq_getElem hk]
    rw [← hx, e]; exact List.getElem_mem hk
  have hx2 := HH.out x hmem
  have cg : w4.cell? ⟨p.g, 0, none⟩ = some (.slice (some ad) l.length c') := blk_cell H4.out.cells 0
  have HC1 := Aside0.mk hC1
  have HLE := Aside0.mk hlen
  have F1 := Aside0.mk hf1
  have HX2 := Aside0.mk hx2
  clear hC hC1 hlen hx hf1 hx2 hmem
  go_wp2_with (first | (go_at_call 13; fail))
  refine (contains_calls A1 c1 [who] who w4 HC1.out HLE.out (by decide : 1 < 1000000)).mono ?_
  rw [show cont [who] who = true from by simp [cont]]
  rintro e w5 ⟨rfl, hb⟩
  have HB5 := Aside0.mk (below_step HB4.out hb)
  have H5 := Aside0.mk (H4.out.below hb)
  have u0 := pw_cell_below hb t0
  have u1 := pw_cell_below hb t1
  have u2 := pw_cell_below hb t2
  have r0 := pw_cell_below hb x0
  have r1 := pw_cell_below hb x1
  have cg5 := pw_cell_below hb cg
  have HC5 := Aside0.mk (Kd.C_below HC1.out hb)
  clear hb t0 t1 t2 x0 x1 cg
  go_wp2_with (first | (go_at_call 20; fail))
  have hgr : ∃ gR, ad = ⟨gR, 0, none⟩ := by
    obtain ⟨_, inner, ho, _⟩ := H5.out.row
    rcases ho.2 with ⟨h2, h3⟩ | ⟨g', cap', cur, hv, _⟩
    · cases h2
    · injection hv with e1
      injection e1 with e1
      exact ⟨g', e1⟩
  obtain ⟨gR, rfl⟩ := hgr
  rw [add_plain] at u0 u1 u2
  refine (slices_BinarySearch_int_int.calls 4 A1 c1 [who] who 0 true _ (Kd.C_alloc HC5.out _) HLE.out (bs_one who)).mono ?_
  rintro e w6 ⟨rfl, nd, rfl⟩
  have hc6 : ((w5.alloc (.cells #[.string x.f0, .slice A1 1 c1, .int .i64 x.f2] 51)).drewN nd).heap[w5.heap.size]? = some (.cells #[.string x.f0, .slice A1 1 c1, .int .i64 x.f2] 51 (0, 0)) := heap_alloc_new w5 _
  have BW := Aside0.mk (show Below w5.heap.size w5 ((w5.alloc (.cells #[.string x.f0, .slice A1 1 c1, .int .i64 x.f2] 51)).drewN nd) from pw_below_drewN (below_alloc (Below.refl _ _) _) nd)
  generalize hW6 : (w5.alloc (.cells #[.string x.f0, .slice A1 1 c1, .int .i64 x.f2] 51)).drewN nd = w6 at hc6 BW ⊢
  clear hW6
  have H6 := Aside0.mk (H5.out.below BW.out)
  have hg6 := H6.out.cells
  have m0 : w6.cell? ⟨w5.heap.size, 0, none⟩ = some (.string x.f0) := blk_cell hc6 0
  have m1 : w6.cell? ⟨w5.heap.size, 1, none⟩ = some (.slice A1 1 c1) := blk_cell hc6 1
  have m2 : w6.cell? ⟨w5.heap.size, 2, none⟩ = some (.int .i64 x.f2) := blk_cell hc6 2
  have fm2 : w6.frozen? ⟨w5.heap.size, 2, none⟩ = false := blk_frozen hc6 2
  have r06 := pw_cell_below BW.out r0
  have r16 := pw_cell_below BW.out r1
  have CB := Aside0.mk (show p.g < w5.heap.size from blk_lt H5.out.cells)
  have GR := Aside0.mk (show gR < w5.heap.size from Kd.R_lt H5.out.row gR (by simp [Value.ownBlock]))
  have HC6 := Aside0.mk hc6
  have U1 := Aside0.mk u1
  have GB := Aside0.mk (show p.B ≤ gR from Kd.R_base H5.out.row gR (by simp [Value.ownBlock]))
  clear u0 u1 u2 r0 r1 cg5 hc6 hg6
  have hx2 := HX2.out
  cases alone with
  | false =>
    rcases hx2 with h2 | h2
    · rw [h2] at HC6 m2
      go_wp2
      go_region_with (first
        | (go_at_call 19; (with_reducible refine (how_calls what false _).mono ?_); rintro e w7 ⟨rfl, hb⟩; have hc7 : w7.heap[w5.heap.size]? = some (.cells #[.string x.f0, .slice A1 1 c1, .int .i64 0] 51 (0, 0)) := (by first | exact blk_below HC6.out hb | exact blk_below (show w6.drew.heap[w5.heap.size]? = _ from HC6.out) hb); have n2 : w7.cell? ⟨w5.heap.size, 2, none⟩ = some (.int .i64 0) := blk_cell hc7 2; have fn2 : w7.frozen? ⟨w5.heap.size, 2, none⟩ = false := blk_frozen hc7 2))
      all_goals
        have B7 := Aside0.mk (show Below w6.heap.size w6 w7 from by first | exact hb | exact below_step (below_drew1 (Below.refl _ _)) hb)
        have H7 := Aside0.mk (H6.out.below B7.out)
        have hc8 := blk_set hc7 2 (.int .i64 0)
        have hg8 : (w7.setCell ⟨w5.heap.size, 2, none⟩ (.int .i64 0)).heap[p.g]? = some (.cells #[.slice (some ⟨gR, 0, none⟩) l.length c'] 49 (0, 0)) := (Below.heap_setCell _ _ _ _ (Nat.ne_of_lt CB.out)).trans H7.out.cells
        have T8 := Aside0.mk (show Tab (w7.setCell ⟨w5.heap.size, 2, none⟩ (.int .i64 0)) p (.slice (some ⟨gR, 0, none⟩) l.length c') l from
          ⟨hg8, Kd.R_step H5.out.row (fun q _ hq => (Below.heap_setCell _ _ _ _ (Nat.ne_of_lt hq)).trans ((B7.out.block q (Nat.lt_of_lt_of_le hq BW.out.size)).trans (BW.out.block q hq))), H5.out.bg, H5.out.small, H5.out.wide⟩)
        have B8 := Aside0.mk (show Below p.B w (w7.setCell ⟨w5.heap.size, 2, none⟩ (.int .i64 0)) from ((HB5.out.mono HB0.out).trans ((below_step BW.out B7.out).mono H5.out.base)).setCell (p := ⟨w5.heap.size, 2, none⟩) H5.out.base _)
        have e0 : w7.cell? ⟨w5.heap.size, 0, none⟩ = some (.string x.f0) := blk_cell hc7 0
        have e1 : w7.cell? ⟨w5.heap.size, 1, none⟩ = some (.slice A1 1 c1) := blk_cell hc7 1
        have cg8 : w7.cell? ⟨p.g, 0, none⟩ = some (.slice (some ⟨gR, 0, none⟩) l.length c') := blk_cell H7.out.cells 0
        obtain ⟨v8, A8, c8, hA8, v0, v1, v2, _, hC8⟩ := at_T51 (Kd.R_reads' H7.out.row).2.2 (k : Int) k0 k1
        obtain rfl := Option.some.inj hA8
        rw [Int.toNat_natCast, add_plain] at v0 v1 v2
        have fz : ∀ i, w7.frozen? ⟨gR, i, none⟩ = false := row_frozen H7.out.row
        have fz0 := fz (k * 3)
        have fz1 := fz (k * 3 + 1)
        have fz2 := fz (k * 3 + 2)
        have NE1 : w5.heap.size ≠ p.g := Nat.ne_of_gt CB.out
        have NE2 : w5.heap.size ≠ gR := Nat.ne_of_gt GR.out
        have NE3 : p.g ≠ w5.heap.size := Nat.ne_of_lt CB.out
        have NE4 : gR ≠ w5.heap.size := Nat.ne_of_lt GR.out
        have W1 := Aside0.mk (show (w7.setCell ⟨w5.heap.size, 2, none⟩ (.int .i64 0)).cell? ⟨gR, k * 3 + 1, none⟩ = some (.slice A1 1 c1) from (cell_far _ _ NE4).trans (pw_cell_below (below_step BW.out B7.out) U1.out))
        clear hg8
        go_wp2
        go_region
        obtain ⟨x', h9, y1', y2', y3'⟩ := tab_elem T8.out k hk x XX.out F1.out W1.out (0 : Int) (.inl rfl)
        have T9 := Aside0.mk (show Tab (((((w7.setCell ⟨w5.heap.size, 2, none⟩ (.int .i64 0)).setCell ⟨gR, k * 3, none⟩ (.string x.f0)).setCell ⟨gR, k * 3 + 1, none⟩ (.slice A1 1 c1)).setCell ⟨gR, k * 3 + 2, none⟩ (.int .i64 0)).drew) p (.slice (some ⟨gR, 0, none⟩) l.length c') (l.set k x') from h9.below (below_drew1 (Below.refl _ _)))
        go_wp2
        go_ret2
        exact ⟨rfl, ⟨_, x', T9.out, by rw [XX.out]; exact y1', y2', y3'⟩, (((B8.out.setCell (p := ⟨gR, k * 3, none⟩) GB.out _).setCell (p := ⟨gR, k * 3 + 1, none⟩) GB.out _).setCell (p := ⟨gR, k * 3 + 2, none⟩) GB.out _).drew⟩
    · rw [h2] at HC6 m2
      go_wp2
      go_region_with (first
        | (go_at_call 19; (with_reducible refine (how_calls what false _).mono ?_); rintro e w7 ⟨rfl, hb⟩; have hc7 : w7.heap[w5.heap.size]? = some (.cells #[.string x.f0, .slice A1 1 c1, .int .i64 1] 51 (0, 0)) := (by first | exact blk_below HC6.out hb | exact blk_below (show w6.drew.heap[w5.heap.size]? = _ from HC6.out) hb); have n2 : w7.cell? ⟨w5.heap.size, 2, none⟩ = some (.int .i64 1) := blk_cell hc7 2; have fn2 : w7.frozen? ⟨w5.heap.size, 2, none⟩ = false := blk_frozen hc7 2))
      all_goals
        have B7 := Aside0.mk (show Below w6.heap.size w6 w7 from by first | exact hb | exact below_step (below_drew1 (Below.refl _ _)) hb)
        have H7 := Aside0.mk (H6.out.below B7.out)
        have hc8 := blk_set hc7 2 (.int .i64 1)
        have hg8 : (w7.setCell ⟨w5.heap.size, 2, none⟩ (.int .i64 1)).heap[p.g]? = some (.cells #[.slice (some ⟨gR, 0, none⟩) l.length c'] 49 (0, 0)) := (Below.heap_setCell _ _ _ _ (Nat.ne_of_lt CB.out)).trans H7.out.cells
        have T8 := Aside0.mk (show Tab (w7.setCell ⟨w5.heap.size, 2, none⟩ (.int .i64 1)) p (.slice (some ⟨gR, 0, none⟩) l.length c') l from
          ⟨hg8, Kd.R_step H5.out.row (fun q _ hq => (Below.heap_setCell _ _ _ _ (Nat.ne_of_lt hq)).trans ((B7.out.block q (Nat.lt_of_lt_of_le hq BW.out.size)).trans (BW.out.block q hq))), H5.out.bg, H5.out.small, H5.out.wide⟩)
        have B8 := Aside0.mk (show Below p.B w (w7.setCell ⟨w5.heap.size, 2, none⟩ (.int .i64 1)) from ((HB5.out.mono HB0.out).trans ((below_step BW.out B7.out).mono H5.out.base)).setCell (p := ⟨w5.heap.size, 2, none⟩) H5.out.base _)
        have e0 : w7.cell? ⟨w5.heap.size, 0, none⟩ = some (.string x.f0) := blk_cell hc7 0
        have e1 : w7.cell? ⟨w5.heap.size, 1, none⟩ = some (.slice A1 1 c1) := blk_cell hc7 1
        have cg8 : w7.cell? ⟨p.g, 0, none⟩ = some (.slice (some ⟨gR, 0, none⟩) l.length c') := blk_cell H7.out.cells 0
        obtain ⟨v8, A8, c8, hA8, v0, v1, v2, _, hC8⟩ := at_T51 (Kd.R_reads' H7.out.row).2.2 (k : Int) k0 k1
        obtain rfl := Option.some.inj hA8
        rw [Int.toNat_natCast, add_plain] at v0 v1 v2
        have fz : ∀ i, w7.frozen? ⟨gR, i, none⟩ = false := row_frozen H7.out.row
        have fz0 := fz (k * 3)
        have fz1 := fz (k * 3 + 1)
        have fz2 := fz (k * 3 + 2)
        have NE1 : w5.heap.size ≠ p.g := Nat.ne_of_gt CB.out
        have NE2 : w5.heap.size ≠ gR := Nat.ne_of_gt GR.out
        have NE3 : p.g ≠ w5.heap.size := Nat.ne_of_lt CB.out
        have NE4 : gR ≠ w5.heap.size := Nat.ne_of_lt GR.out
        have W1 := Aside0.mk (show (w7.setCell ⟨w5.heap.size, 2, none⟩ (.int .i64 1)).cell? ⟨gR, k * 3 + 1, none⟩ = some (.slice A1 1 c1) from (cell_far _ _ NE4).trans (pw_cell_below (below_step BW.out B7.out) U1.out))
        clear hg8
        go_wp2
        go_region
        obtain ⟨x', h9, y1', y2', y3'⟩ := tab_elem T8.out k hk x XX.out F1.out W1.out (1 : Int) (.inr rfl)
        have T9 := Aside0.mk (show Tab (((((w7.setCell ⟨w5.heap.size, 2, none⟩ (.int .i64 1)).setCell ⟨gR, k * 3, none⟩ (.string x.f0)).setCell ⟨gR, k * 3 + 1, none⟩ (.slice A1 1 c1)).setCell ⟨gR, k * 3 + 2, none⟩ (.int .i64 1)).drew) p (.slice (some ⟨gR, 0, none⟩) l.length c') (l.set k x') from h9.below (below_drew1 (Below.refl _ _)))
        go_wp2
        go_ret2
        exact ⟨rfl, ⟨_, x', T9.out, by rw [XX.out]; exact y1', y2', y3'⟩, (((B8.out.setCell (p := ⟨gR, k * 3, none⟩) GB.out _).setCell (p := ⟨gR, k * 3 + 1, none⟩) GB.out _).setCell (p := ⟨gR, k * 3 + 2, none⟩) GB.out _).drew⟩
  | true =>
    rcases hx2 with h2 | h2
    · rw [h2] at HC6 m2
      go_wp2
      go_region_with (first
        | (go_at_call 19; (with_reducible refine (how_calls what true _).mono ?_); rintro e w7 ⟨rfl, hb⟩; have hc7 : w7.heap[w5.heap.size]? = some (.cells #[.string x.f0, .slice A1 1 c1, .int .i64 0] 51 (0, 0)) := (by first | exact blk_below HC6.out hb | exact blk_below (show w6.drew.heap[w5.heap.size]? = _ from HC6.out) hb); have n2 : w7.cell? ⟨w5.heap.size, 2, none⟩ = some (.int .i64 0) := blk_cell hc7 2; have fn2 : w7.frozen? ⟨w5.heap.size, 2, none⟩ = false := blk_frozen hc7 2))
      all_goals
        have B7 := Aside0.mk (show Below w6.heap.size w6 w7 from by first | exact hb | exact below_step (below_drew1 (Below.refl _ _)) hb)
        have H7 := Aside0.mk (H6.out.below B7.out)
        have hc8 := blk_set hc7 2 (.int .i64 1)
        have hg8 : (w7.setCell ⟨w5.heap.size, 2, none⟩ (.int .i64 1)).heap[p.g]? = some (.cells #[.slice (some ⟨gR, 0, none⟩) l.length c'] 49 (0, 0)) := (Below.heap_setCell _ _ _ _ (Nat.ne_of_lt CB.out)).trans H7.out.cells
        have T8 := Aside0.mk (show Tab (w7.setCell ⟨w5.heap.size, 2, none⟩ (.int .i64 1)) p (.slice (some ⟨gR, 0, none⟩) l.length c') l from
          ⟨hg8, Kd.R_step H5.out.row (fun q _ hq => (Below.heap_setCell _ _ _ _ (Nat.ne_of_lt hq)).trans ((B7.out.block q (Nat.lt_of_lt_of_le hq BW.out.size)).trans (BW.out.block q hq))), H5.out.bg, H5.out.small, H5.out.wide⟩)
        have B8 := Aside0.mk (show Below p.B w (w7.setCell ⟨w5.heap.size, 2, none⟩ (.int .i64 1)) from ((HB5.out.mono HB0.out).trans ((below_step BW.out B7.out).mono H5.out.base)).setCell (p := ⟨w5.heap.size, 2, none⟩) H5.out.base _)
        have e0 : w7.cell? ⟨w5.heap.size, 0, none⟩ = some (.string x.f0) := blk_cell hc7 0
        have e1 : w7.cell? ⟨w5.heap.size, 1, none⟩ = some (.slice A1 1 c1) := blk_cell hc7 1
        have cg8 : w7.cell? ⟨p.g, 0, none⟩ = some (.slice (some ⟨gR, 0, none⟩) l.length c') := blk_cell H7.out.cells 0
        obtain ⟨v8, A8, c8, hA8, v0, v1, v2, _, hC8⟩ := at_T51 (Kd.R_reads' H7.out.row).2.2 (k : Int) k0 k1
        obtain rfl := Option.some.inj hA8
        rw [Int.toNat_natCast, add_plain] at v0 v1 v2
        have fz : ∀ i, w7.frozen? ⟨gR, i, none⟩ = false := row_frozen H7.out.row
        have fz0 := fz (k * 3)
        have fz1 := fz (k * 3 + 1)
        have fz2 := fz (k * 3 + 2)
        have NE1 : w5.heap.size ≠ p.g := Nat.ne_of_gt CB.out
        have NE2 : w5.heap.size ≠ gR := Nat.ne_of_gt GR.out
        have NE3 : p.g ≠ w5.heap.size := Nat.ne_of_lt CB.out
        have NE4 : gR ≠ w5.heap.size := Nat.ne_of_lt GR.out
        have W1 := Aside0.mk (show (w7.setCell ⟨w5.heap.size, 2, none⟩ (.int .i64 1)).cell? ⟨gR, k * 3 + 1, none⟩ = some (.slice A1 1 c1) from (cell_far _ _ NE4).trans (pw_cell_below (below_step BW.out B7.out) U1.out))
        clear hg8
        go_wp2
        go_region
        obtain ⟨x', h9, y1', y2', y3'⟩ := tab_elem T8.out k hk x XX.out F1.out W1.out (1 : Int) (.inr rfl)
        have T9 := Aside0.mk (show Tab (((((w7.setCell ⟨w5.heap.size, 2, none⟩ (.int .i64 1)).setCell ⟨gR, k * 3, none⟩ (.string x.f0)).setCell ⟨gR, k * 3 + 1, none⟩ (.slice A1 1 c1)).setCell ⟨gR, k * 3 + 2, none⟩ (.int .i64 1)).drew) p (.slice (some ⟨gR, 0, none⟩) l.length c') (l.set k x') from h9.below (below_drew1 (Below.refl _ _)))
        go_wp2
        go_ret2
        exact ⟨rfl, ⟨_, x', T9.out, by rw [XX.out]; exact y1', y2', y3'⟩, (((B8.out.setCell (p := ⟨gR, k * 3, none⟩) GB.out _).setCell (p := ⟨gR, k * 3 + 1, none⟩) GB.out _).setCell (p := ⟨gR, k * 3 + 2, none⟩) GB.out _).drew⟩
    · rw [h2] at HC6 m2
      go_wp2
      go_region_with (first
        | (go_at_call 19; (with_reducible refine (how_calls what true _).mono ?_); rintro e w7 ⟨rfl, hb⟩; have hc7 : w7.heap[w5.heap.size]? = some (.cells #[.string x.f0, .slice A1 1 c1, .int .i64 1] 51 (0, 0)) := (by first | exact blk_below HC6.out hb | exact blk_below (show w6.drew.heap[w5.heap.size]? = _ from HC6.out) hb); have n2 : w7.cell? ⟨w5.heap.size, 2, none⟩ = some (.int .i64 1) := blk_cell hc7 2; have fn2 : w7.frozen? ⟨w5.heap.size, 2, none⟩ = false := blk_frozen hc7 2))
      all_goals
        have B7 := Aside0.mk (show Below w6.heap.size w6 w7 from by first | exact hb | exact below_step (below_drew1 (Below.refl _ _)) hb)
        have H7 := Aside0.mk (H6.out.below B7.out)
        have hc8 := blk_set hc7 2 (.int .i64 1)
        have hg8 : (w7.setCell ⟨w5.heap.size, 2, none⟩ (.int .i64 1)).heap[p.g]? = some (.cells #[.slice (some ⟨gR, 0, none⟩) l.length c'] 49 (0, 0)) := (Below.heap_setCell _ _ _ _ (Nat.ne_of_lt CB.out)).trans H7.out.cells
        have T8 := Aside0.mk (show Tab (w7.setCell ⟨w5.heap.size, 2, none⟩ (.int .i64 1)) p (.slice (some ⟨gR, 0, none⟩) l.length c') l from
          ⟨hg8, Kd.R_step H5.out.row (fun q _ hq => (Below.heap_setCell _ _ _ _ (Nat.ne_of_lt hq)).trans ((B7.out.block q (Nat.lt_of_lt_of_le hq BW.out.size)).trans (BW.out.block q hq))), H5.out.bg, H5.out.small, H5.out.wide⟩)
        have B8 := Aside0.mk (show Below p.B w (w7.setCell ⟨w5.heap.size, 2, none⟩ (.int .i64 1)) from ((HB5.out.mono HB0.out).trans ((below_step BW.out B7.out).mono H5.out.base)).setCell (p := ⟨w5.heap.size, 2, none⟩) H5.out.base _)
        have e0 : w7.cell? ⟨w5.heap.size, 0, none⟩ = some (.string x.f0) := blk_cell hc7 0
        have e1 : w7.cell? ⟨w5.heap.size, 1, none⟩ = some (.slice A1 1 c1) := blk_cell hc7 1
        have cg8 : w7.cell? ⟨p.g, 0, none⟩ = some (.slice (some ⟨gR, 0, none⟩) l.length c') := blk_cell H7.out.cells 0
        obtain ⟨v8, A8, c8, hA8, v0, v1, v2, _, hC8⟩ := at_T51 (Kd.R_reads' H7.out.row).2.2 (k : Int) k0 k1
        obtain rfl := Option.some.inj hA8
        rw [Int.toNat_natCast, add_plain] at v0 v1 v2
        have fz : ∀ i, w7.frozen? ⟨gR, i, none⟩ = false := row_frozen H7.out.row
        have fz0 := fz (k * 3)
        have fz1 := fz (k * 3 + 1)
        have fz2 := fz (k * 3 + 2)
        have NE1 : w5.heap.size ≠ p.g := Nat.ne_of_gt CB.out
        have NE2 : w5.heap.size ≠ gR := Nat.ne_of_gt GR.out
        have NE3 : p.g ≠ w5.heap.size := Nat.ne_of_lt CB.out
        have NE4 : gR ≠ w5.heap.size := Nat.ne_of_lt GR.out
        have W1 := Aside0.mk (show (w7.setCell ⟨w5.heap.size, 2, none⟩ (.int .i64 1)).cell? ⟨gR, k * 3 + 1, none⟩ = some (.slice A1 1 c1) from (cell_far _ _ NE4).trans (pw_cell_below (below_step BW.out B7.out) U1.out))
        clear hg8
        go_wp2
        go_region
        obtain ⟨x', h9, y1', y2', y3'⟩ := tab_elem T8.out k hk x XX.out F1.out W1.out (1 : Int) (.inr rfl)
        have T9 := Aside0.mk (show Tab (((((w7.setCell ⟨w5.heap.size, 2, none⟩ (.int .i64 1)).setCell ⟨gR, k * 3, none⟩ (.string x.f0)).setCell ⟨gR, k * 3 + 1, none⟩ (.slice A1 1 c1)).setCell ⟨gR, k * 3 + 2, none⟩ (.int .i64 1)).drew) p (.slice (some ⟨gR, 0, none⟩) l.length c') (l.set k x') from h9.below (below_drew1 (Below.refl _ _)))
        go_wp2
        go_ret2
        exact ⟨rfl, ⟨_, x', T9.out, by rw [XX.out]; exact y1', y2', y3'⟩, (((B8.out.setCell (p := ⟨gR, k * 3, none⟩) GB.out _).setCell (p := ⟨gR, k * 3 + 1, none⟩) GB.out _).setCell (p := ⟨gR, k * 3 + 2, none⟩) GB.out _).drew⟩
end Go.Proofs.Ytonbonailghjjaa.Lk
