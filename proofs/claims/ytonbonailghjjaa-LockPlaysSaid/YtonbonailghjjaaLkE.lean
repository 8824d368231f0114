/- A thing is taken (Take), walked: way by way. -/
import Derived.Test.YtonbonailghjjaaLkD
namespace Go.Proofs.Ytonbonailghjjaa.Lk
open Go.RowKit Go.Proofs.YtonbonailghjjaaW.PrintWords Go.Proofs.YtonbonailghjjaaW.PrintLast Go.Proofs.YtonbonailghjjaaW.PrintMore Go.Proofs.Ytonbonailghjjaa.XB Go.Proofs.Ytonbonailghjjaa.PLockMost
attribute [local go_sem] max2_int min2_int max_two min_two max_three min_three max_four min_four
set_option linter.unusedVariables false
set_option linter.unusedSimpArgs false
variable {w w' : World} {p : At} {rv : Value} {l : List S51}
set_option maxHeartbeats 8000000 in
set_option maxRecDepth 100000 in
theorem take_nil (who : Int) (what : ByteArray) (alone : Bool) (w : World) :
    Calls Try.prog 8 #[.pointer none, .int .i64 who, .agg #[.string what, .bool alone]] w fun e w' => e = .returned (.tuple #[.slice none 0 0, .int .i64 1]) ∧ Below w.heap.size w w' := by
  have HB := Aside0.mk (below_alloc (Below.refl w.heap.size w) (.cells #[.string what, .bool alone] 38))
  go_enter Try.func8, Try.ntmps8
  go_wp2
  go_ret2
  exact ⟨rfl, HB.out⟩
set_option maxHeartbeats 8000000 in
set_option maxRecDepth 100000 in
theorem take_empty (g : Nat) (who : Int) (h0 : 0 ≤ who) (h1 : who < 16) (alone : Bool) (w : World) :
    Calls Try.prog 8 #[.pointer (some ⟨g, 0, none⟩), .int .i64 who, .agg #[.string ⟨#[]⟩, .bool alone]] w fun e w' => e = .returned (.tuple #[.slice none 0 0, .int .i64 1]) ∧ Below w.heap.size w w' := by
  have HB := Aside0.mk (below_alloc (Below.refl w.heap.size w) (.cells #[.string ⟨#[]⟩, .bool alone] 38))
  have hn := heap_alloc_new w (.cells #[.string ⟨#[]⟩, .bool alone] 38)
  have z0 : (w.alloc (.cells #[.string ⟨#[]⟩, .bool alone] 38)).cell? ⟨w.heap.size, 0, none⟩ = some (.string ⟨#[]⟩) := blk_cell hn 0
  have d0 : decide (who < 0) = false := decide_eq_false (by omega)
  have d1 : decide (16 ≤ who) = false := decide_eq_false (by omega)
  clear hn
  go_enter Try.func8, Try.ntmps8
  go_wp2
  go_ret2
  exact ⟨rfl, HB.out⟩
set_option maxHeartbeats 2000000 in
set_option maxRecDepth 100000 in
theorem take_against (h : Tab w p rv l) (who : Int) (h0 : 0 ≤ who) (h1 : who < 16) (what : ByteArray) (hne : what.toList ≠ []) (alone : Bool) (hh : ∀ x ∈ l, x.f2 = 0 ∨ x.f2 = 1) (ha : agn l who what alone ≠ []) :
    Calls Try.prog 8 #[.pointer (some ⟨p.g, 0, none⟩), .int .i64 who, .agg #[.string what, .bool alone]] w fun e w' => ∃ v, e = .returned (.tuple #[v, .int .i64 0]) ∧ Kd.R (Kd.int .i64) 3 w' w.heap.size (fun _ => True) v (agn l who what alone) ∧ Below w.heap.size w w' := by
  have b0 := Aside0.mk (below_alloc (Below.refl w.heap.size w) (.cells #[.string what, .bool alone] 38))
  have H2 := Aside0.mk (h.below b0.out)
  have hn := heap_alloc_new w (.cells #[.string what, .bool alone] 38)
  have z0 : (w.alloc (.cells #[.string what, .bool alone] 38)).cell? ⟨w.heap.size, 0, none⟩ = some (.string what) := blk_cell hn 0
  have z1 : (w.alloc (.cells #[.string what, .bool alone] 38)).cell? ⟨w.heap.size, 1, none⟩ = some (.bool alone) := blk_cell hn 1
  have d0 : decide (who < 0) = false := decide_eq_false (by omega)
  have d1 : decide (16 ≤ who) = false := decide_eq_false (by omega)
  have s0 : what.toList.isEmpty = false := by cases hw : what.toList with | nil => exact absurd hw hne | cons _ _ => rfl
  have s1 : (what.toList == []) = false := beq_eq_false_iff_ne.mpr hne
  have HH := Aside0.mk hh
  clear h hn hh
  go_enter Try.func8, Try.ntmps8
  go_wp2_with (first | (go_at_call 17; fail))
  refine (against_calls H2.out who what alone HH.out).mono ?_
  rintro e w3 ⟨v3, rfl, hR, hb⟩
  have HB3 := Aside0.mk (below_step b0.out hb)
  obtain ⟨A3, c3, hv3, hl3, _⟩ := Kd.R_reads hR
  have HR3 := Aside0.mk (Kd.R_lower (base' := w.heap.size) hR b0.out.size)
  clear hb hR
  obtain ⟨ag, hag⟩ : ∃ ag, agn l who what alone = ag := ⟨_, rfl⟩
  have HAG := Aside0.mk hag
  rw [hag] at ha hv3 HR3 hl3
  clear hag
  subst hv3
  have hp : 0 < ag.length := List.length_pos_iff.mpr ha
  have d3 : decide ((0 : Int) < (ag.length : Int)) = true := decide_eq_true (by omega)
  have d4 : decide (0 < ag.length) = true := decide_eq_true hp
  go_wp2
  go_ret2
  exact ⟨_, rfl, by rw [HAG.out]; exact HR3.out, HB3.out⟩
theorem info51 : (Try.prog.info? 51).map (fun i => (i.zero, i.size, i.bytes)) = some (some (.agg #[.string ⟨#[]⟩, .slice none 0 0, .int .i64 0]), 3, 48) := by kernel_rfl
theorem one_row {W : World} {b base : Nat} {okp : Nat → Prop} {who : Int} (h : W.heap[b]? = some (.cells #[.int .i64 who] 3 (0, 0))) (hb : base ≤ b) (ho : okp b) : Kd.R (Kd.int .i64) 3 W base okp (.slice (some ⟨b, 0, none⟩) 1 1) [who] := by
  refine Kd.R_of_own ⟨rfl, .inr ⟨b, 1, #[.int .i64 who], rfl, hb, h, Nat.le_refl _, by decide, rfl, rfl⟩⟩ fun k hk => ?_
  have e : b = k := by simpa [Value.ownBlock] using hk
  rw [← e]; exact ho
theorem grown_cell {W W' : World} {row : Option Nat} {a : Addr} {v : Value} (hG : W.grownBy W' row) (h : W.cell? a = some v) (hne : some a.block ≠ row) : W'.cell? a = some v := by
  have e := hG.block a.block (cell_lt h) hne
  unfold World.cell? at h ⊢
  rw [e]; exact h
theorem tab_put {w7 : World} {A7 : Option Addr} {n7 c7 : Nat} {v0 : Value} {l7 : List S51} (g7 : w7.heap[p.g]? = some (.cells #[v0] 49 (0, 0))) (R7 : Kd.R k51 51 w7 p.B (fun k => k ≠ p.g) (.slice A7 n7 c7) l7) (bg : p.B ≤ p.g) (wide : ∀ x ∈ l7, x.f1.length < 1000) (hl : l7.length < 1000000) :
    Tab (w7.setCell ⟨p.g, 0, none⟩ (.slice A7 n7 c7)) p (.slice A7 n7 c7) l7 :=
  ⟨blk_set g7 0 _, Kd.R_far (p := ⟨p.g, 0, none⟩) R7 (fun q hq => hq) _, bg, hl, wide⟩
theorem cell_dr {W : World} {a : Addr} {v : Value} (h : W.cell? a = some v) : W.drew.cell? a = some v := h
theorem cell_al {W : World} {a : Addr} {v : Value} (o : Obj) (h : W.cell? a = some v) : (W.alloc o).cell? a = some v := pw_cell_below (below_alloc (Below.refl _ _) o) h
theorem agn_none {l : List S51} {who : Int} {what : ByteArray} {alone : Bool} (h : idx what l = -1) : agn l who what alone = [] := by unfold agn; rw [if_pos h]
set_option maxHeartbeats 2000000 in
set_option maxRecDepth 100000 in
theorem take_full (h : Tab w p rv l) (who : Int) (h0 : 0 ≤ who) (h1 : who < 16) (what : ByteArray) (hne : what.toList ≠ []) (alone : Bool) (hh : ∀ x ∈ l, x.f2 = 0 ∨ x.f2 = 1) (hi : idx what l = -1) (hd : 512 ≤ held l who) :
    Calls Try.prog 8 #[.pointer (some ⟨p.g, 0, none⟩), .int .i64 who, .agg #[.string what, .bool alone]] w fun e w' => e = .returned (.tuple #[.slice none 0 0, .int .i64 4]) ∧ Below w.heap.size w w' := by
  have b0 := Aside0.mk (below_alloc (Below.refl w.heap.size w) (.cells #[.string what, .bool alone] 38))
  have H2 := Aside0.mk (h.below b0.out)
  have hn := heap_alloc_new w (.cells #[.string what, .bool alone] 38)
  have N := Aside0.mk hn
  have z0 : (w.alloc (.cells #[.string what, .bool alone] 38)).cell? ⟨w.heap.size, 0, none⟩ = some (.string what) := blk_cell hn 0
  have z1 : (w.alloc (.cells #[.string what, .bool alone] 38)).cell? ⟨w.heap.size, 1, none⟩ = some (.bool alone) := blk_cell hn 1
  have d0 : decide (who < 0) = false := decide_eq_false (by omega)
  have d1 : decide (16 ≤ who) = false := decide_eq_false (by omega)
  have s0 : what.toList.isEmpty = false := by cases hw : what.toList with | nil => exact absurd hw hne | cons _ _ => rfl
  have s1 : (what.toList == []) = false := beq_eq_false_iff_ne.mpr hne
  have HH := Aside0.mk hh
  have HI := Aside0.mk hi
  have HDD := Aside0.mk hd
  clear h hn hh hi hd
  go_enter Try.func8, Try.ntmps8
  go_wp2_with (first | (go_at_call 17; fail))
  refine (against_calls H2.out who what alone HH.out).mono ?_
  rw [agn_none HI.out]
  rintro e w3 ⟨v3, rfl, hR, hb⟩
  obtain ⟨A3, c3, rfl, _, _⟩ := Kd.R_reads hR
  have HB3 := Aside0.mk (below_step b0.out hb)
  have H3 := Aside0.mk (H2.out.below hb)
  have y0 : w3.cell? ⟨w.heap.size, 0, none⟩ = some (.string what) := pw_cell_below hb z0
  clear hb hR z0 z1
  go_wp2_with (first | (go_at_call 18; fail))
  refine (find_calls H3.out what).mono ?_
  rw [HI.out]
  rintro e w4 ⟨rfl, hb⟩
  have HB4 := Aside0.mk (below_step HB3.out hb)
  have H4 := Aside0.mk (H3.out.below hb)
  clear hb y0
  go_wp2_with (first | (go_at_call 12; fail))
  refine (held_calls H4.out who).mono ?_
  rintro e w5 ⟨rfl, hb⟩
  have HB5 := Aside0.mk (below_step HB4.out hb)
  have hd := HDD.out
  obtain ⟨nh, hnh⟩ : ∃ nh, held l who = nh := ⟨_, rfl⟩
  rw [hnh] at hd ⊢
  have d3 : decide ((512 : Int) ≤ (nh : Int)) = true := decide_eq_true (by omega)
  have d4 : decide (512 ≤ nh) = true := decide_eq_true hd
  clear hb hnh HDD
  go_wp2
  go_ret2
  exact ⟨rfl, HB5.out⟩
set_option maxHeartbeats 2000000 in
set_option maxRecDepth 100000 in
theorem take_new (h : Tab w p rv l) (who : Int) (h0 : 0 ≤ who) (h1 : who < 16) (what : ByteArray) (hne : what.toList ≠ []) (alone : Bool) (hh : ∀ x ∈ l, x.f2 = 0 ∨ x.f2 = 1) (hi : idx what l = -1) (hd : held l who < 512) (hl : l.length + 1 < 1000000) :
    Calls Try.prog 8 #[.pointer (some ⟨p.g, 0, none⟩), .int .i64 who, .agg #[.string what, .bool alone]] w fun e w' => e = .returned (.tuple #[.slice none 0 0, .int .i64 0]) ∧ (∃ rv', Tab w' p rv' (l ++ [⟨what, [who], howI alone⟩])) ∧ Below p.B w w' ∧ Far p.g rv.ownBlock w w' := by
  have b0 := Aside0.mk (below_alloc (Below.refl w.heap.size w) (.cells #[.string what, .bool alone] 38))
  have H2 := Aside0.mk (h.below b0.out)
  have hn := heap_alloc_new w (.cells #[.string what, .bool alone] 38)
  have z0 : (w.alloc (.cells #[.string what, .bool alone] 38)).cell? ⟨w.heap.size, 0, none⟩ = some (.string what) := blk_cell hn 0
  have z1 : (w.alloc (.cells #[.string what, .bool alone] 38)).cell? ⟨w.heap.size, 1, none⟩ = some (.bool alone) := blk_cell hn 1
  have d0 : decide (who < 0) = false := decide_eq_false (by omega)
  have d1 : decide (16 ≤ who) = false := decide_eq_false (by omega)
  have s0 : what.toList.isEmpty = false := by cases hw : what.toList with | nil => exact absurd hw hne | cons _ _ => rfl
  have s1 : (what.toList == []) = false := beq_eq_false_iff_ne.mpr hne
  have HH := Aside0.mk hh
  have HI := Aside0.mk hi
  have HDD := Aside0.mk hd
  have GNE := Aside0.mk (show w.heap.size ≠ p.g from Nat.ne_of_gt (blk_lt h.cells))
  have OWN := Aside0.mk (show ∀ k, rv.ownBlock = some k → k < w.heap.size from Kd.R_lt h.row)
  have HB0 := Aside0.mk h.base
  clear h hn hh hi hd
  go_enter Try.func8, Try.ntmps8
  go_wp2_with (first | (go_at_call 17; fail))
  refine (against_calls H2.out who what alone HH.out).mono ?_
  rw [agn_none HI.out]
  rintro e w3 ⟨v3, rfl, hR, hb⟩
  obtain ⟨A3, c3, rfl, _, _⟩ := Kd.R_reads hR
  have HB3 := Aside0.mk (below_step b0.out hb)
  have H3 := Aside0.mk (H2.out.below hb)
  have y0 : w3.cell? ⟨w.heap.size, 0, none⟩ = some (.string what) := pw_cell_below hb z0
  have y1 : w3.cell? ⟨w.heap.size, 1, none⟩ = some (.bool alone) := pw_cell_below hb z1
  clear hb hR z0 z1
  go_wp2_with (first | (go_at_call 18; fail))
  refine (find_calls H3.out what).mono ?_
  rw [HI.out]
  rintro e w4 ⟨rfl, hb⟩
  have HB4 := Aside0.mk (below_step HB3.out hb)
  have H4 := Aside0.mk (H3.out.below hb)
  have x0 : w4.cell? ⟨w.heap.size, 0, none⟩ = some (.string what) := pw_cell_below hb y0
  have x1 : w4.cell? ⟨w.heap.size, 1, none⟩ = some (.bool alone) := pw_cell_below hb y1
  clear hb y0 y1
  go_wp2_with (first | (go_at_call 12; fail))
  refine (held_calls H4.out who).mono ?_
  rintro e w5 ⟨rfl, hb⟩
  have HB5 := Aside0.mk (below_step HB4.out hb)
  have H5 := Aside0.mk (H4.out.below hb)
  have q0 : w5.cell? ⟨w.heap.size, 0, none⟩ = some (.string what) := pw_cell_below hb x0
  have q1 : w5.cell? ⟨w.heap.size, 1, none⟩ = some (.bool alone) := pw_cell_below hb x1
  have hd := HDD.out
  obtain ⟨nh, hnh⟩ : ∃ nh, held l who = nh := ⟨_, rfl⟩
  rw [hnh] at hd ⊢
  have d3 : decide ((512 : Int) ≤ (nh : Int)) = false := decide_eq_false (by omega)
  have d4 : decide (512 ≤ nh) = false := decide_eq_false (by omega)
  clear hb hnh HDD x0 x1
  obtain ⟨A6, c6, hrv, _, _⟩ := Kd.R_reads H5.out.row
  subst hrv
  have cg : w5.cell? ⟨p.g, 0, none⟩ = some (.slice A6 l.length c6) := blk_cell H5.out.cells 0
  have fg : w5.frozen? ⟨p.g, 0, none⟩ = false := blk_frozen H5.out.cells 0
  have OKP := Aside0.mk (show ∀ k, w5.heap.size ≤ k → k ≠ p.g ∧ some k ≠ (Value.slice A6 l.length c6).ownBlock from fun k hk => ⟨fun e => by have := blk_lt H5.out.cells; omega, fun e => by have := Kd.R_lt H5.out.row k e.symm; omega⟩)
  have GLT := Aside0.mk (show ∀ k, w5.heap.size ≤ k → k ≠ p.g from fun k hk => (OKP.out k hk).1)
  have BLE := Aside0.mk (show p.B ≤ w5.heap.size from H5.out.base)
  have BW5 := Aside0.mk (HB5.out.mono HB0.out)
  have HLL := Aside0.mk hl
  have WID := Aside0.mk (show ∀ x ∈ l ++ [(⟨what, [who], howI alone⟩ : S51)], x.f1.length < 1000 from fun x hx => by
    rcases List.mem_append.mp hx with hx | hx
    · exact H5.out.wide x hx
    · obtain rfl := List.mem_singleton.mp hx
      exact (by decide : (1 : Nat) < 1000))
  have cga : ∀ o, (w5.alloc o).cell? ⟨p.g, 0, none⟩ = some (.slice A6 l.length c6) := fun o => cell_al o cg
  have NEBG := Aside0.mk (show (⟨w.heap.size, 0, none⟩ : Addr).block ≠ p.g from GNE.out)
  have NEG := Aside0.mk (show some p.g ≠ (Value.slice A6 l.length c6).ownBlock from fun e => H5.out.row.1 p.g e.symm rfl)
  have NEB := Aside0.mk (show some (⟨w.heap.size, 0, none⟩ : Addr).block ≠ (Value.slice A6 l.length c6).ownBlock from fun e => Nat.lt_irrefl _ (OWN.out _ e.symm))
  go_wp2
  refine start_ (n := 17) (S := fun w' => w'.cell? ⟨p.g, 0, none⟩ = some (.slice A6 l.length c6) ∧ w'.cell? ⟨w.heap.size, 0, none⟩ = some (.string what) ∧ w'.cell? ⟨w.heap.size, 1, none⟩ = some (.bool alone)) (ds := [16]) #[false, false, false, false, false, false, false, false, false, false, false, false, false, false, false, false, false] (by kernel_rfl) rfl rfl ⟨cell_dr cg, cell_dr q0, cell_dr q1⟩ (fun hHeld => ?_)
  refine pure_ (i := 0) (N := some 73) (v := ?_) (a' := ?_) #[true, false, false, false, false, false, false, false, false, false, false, false, false, false, false, false, false] rfl rfl (by kernel_rfl) (fun _ _ _ h => h) (Or.inl ⟨by rfl, ?_⟩) ?_ ?_
  rotate_left
  · intro w'
    go_simp
    with_reducible rfl
  rotate_left
  · simp only [Act.put, List.setIfInBounds_toArray, List.set_cons_zero, List.set_cons_succ, i64_w, i32_w]
    rfl
  refine pure_ (i := 1) (N := some 74) (v := ?_) (a' := ?_) #[true, true, false, false, false, false, false, false, false, false, false, false, false, false, false, false, false] rfl rfl (by kernel_rfl) (fun _ _ _ h => h) (Or.inl ⟨by rfl, ?_⟩) ?_ ?_
  rotate_left
  · intro w'
    go_simp
    with_reducible rfl
  rotate_left
  · simp only [Act.put, List.setIfInBounds_toArray, List.set_cons_zero, List.set_cons_succ, i64_w, i32_w]
    rfl
  refine pure_ (i := 2) (N := some 75) (v := ?_) (a' := ?_) #[true, true, true, false, false, false, false, false, false, false, false, false, false, false, false, false, false] rfl rfl (by kernel_rfl) (fun _ _ _ h => h) (Or.inl ⟨by rfl, ?_⟩) ?_ ?_
  rotate_left
  · intro w'
    go_simp
    with_reducible rfl
  rotate_left
  · simp only [Act.put, List.setIfInBounds_toArray, List.set_cons_zero, List.set_cons_succ, i64_w, i32_w]
    rfl
  refine pure_ (i := 3) (N := some 76) (v := ?_) (a' := ?_) #[true, true, true, true, false, false, false, false, false, false, false, false, false, false, false, false, false] rfl rfl (by kernel_rfl) (fun _ _ _ h => h) (Or.inl ⟨by rfl, ?_⟩) ?_ ?_
  rotate_left
  · intro w'
    go_simp
    with_reducible rfl
  rotate_left
  · simp only [Act.put, List.setIfInBounds_toArray, List.set_cons_zero, List.set_cons_succ, i64_w, i32_w]
    rfl
  refine pure_ (i := 5) (N := some 78) (v := ?_) (a' := ?_) #[true, true, true, true, false, true, false, false, false, false, false, false, false, false, false, false, false] rfl rfl (by kernel_rfl) (fun _ _ _ h => h) (Or.inl ⟨by rfl, ?_⟩) ?_ ?_
  rotate_left
  · intro w'
    go_simp
    with_reducible rfl
  rotate_left
  · simp only [Act.put, List.setIfInBounds_toArray, List.set_cons_zero, List.set_cons_succ, i64_w, i32_w]
    rfl
  refine pure_ (i := 7) (N := some 80) (v := ?_) (a' := ?_) #[true, true, true, true, false, true, false, true, false, false, false, false, false, false, false, false, false] rfl rfl (by kernel_rfl) (fun _ _ _ h => h) (Or.inl ⟨by rfl, ?_⟩) ?_ ?_
  rotate_left
  · intro w'
    go_simp
    with_reducible rfl
  rotate_left
  · simp only [Act.put, List.setIfInBounds_toArray, List.set_cons_zero, List.set_cons_succ, i64_w, i32_w]
    rfl
  refine take_ (i := 4) (N := some 77) (v := ?_) (a' := ?_) #[true, true, true, true, true, true, false, true, false, false, false, false, false, false, false, false, false] rfl rfl (by kernel_rfl) (fun _ _ _ h => h) (Or.inl ⟨by rfl, ?_⟩) hHeld ?_ ?_
  rotate_left
  · rintro w' ⟨s0, s1, s2⟩
    go_simp
    with_reducible rfl
  rotate_left
  · simp only [Act.put, List.setIfInBounds_toArray, List.set_cons_zero, List.set_cons_succ, i64_w, i32_w]
    rfl
  refine take_ (i := 6) (N := some 79) (v := ?_) (a' := ?_) #[true, true, true, true, true, true, true, true, false, false, false, false, false, false, false, false, false] rfl rfl (by kernel_rfl) (fun _ _ _ h => h) (Or.inl ⟨by rfl, ?_⟩) hHeld ?_ ?_
  rotate_left
  · rintro w' ⟨s0, s1, s2⟩
    go_simp
    with_reducible rfl
  rotate_left
  · simp only [Act.put, List.setIfInBounds_toArray, List.set_cons_zero, List.set_cons_succ, i64_w, i32_w]
    rfl
  refine take_ (i := 9) (N := some 82) (v := ?_) (a' := ?_) #[true, true, true, true, true, true, true, true, false, true, false, false, false, false, false, false, false] rfl rfl (by kernel_rfl) (fun _ _ _ h => h) (Or.inl ⟨by rfl, ?_⟩) hHeld ?_ ?_
  rotate_left
  · rintro w' ⟨s0, s1, s2⟩
    go_simp
    with_reducible rfl
  rotate_left
  · simp only [Act.put, List.setIfInBounds_toArray, List.set_cons_zero, List.set_cons_succ, i64_w, i32_w]
    rfl
  refine join_ (σ := Nat) 6 #[true, true, true, true, true, true, true, true, true, true, true, false, false, false, false, false, false] (fun s_ => [(81, .slice (some ⟨s_, 0, none⟩) 1 1), (83, .int .i64 (howI alone))]) (fun s_ w' => (w'.cell? ⟨p.g, 0, none⟩ = some (.slice A6 l.length c6) ∧ w'.cell? ⟨w.heap.size, 0, none⟩ = some (.string what) ∧ w'.cell? ⟨w.heap.size, 1, none⟩ = some (.bool alone)) ∧ w'.heap[s_]? = some (.cells #[.int .i64 who] 3 (0, 0)) ∧ w5.heap.size ≤ s_ ∧ Below w5.heap.size w5 w') ?_ ?_
  rotate_left
  · intro hCont
    refine two_ (i := 8) (j := 10) (Ni := some 81) (Nj := some 83) #[true, true, true, true, true, true, true, true, true, true, false, false, false, false, false, false, false] #[true, true, true, true, true, true, true, true, false, true, true, false, false, false, false, false, false] rfl rfl rfl rfl (by kernel_rfl) (by decide) (by decide) (fun K hK => ?_) (fun K hK => ?_)
    · skip
      refine value_ (w1 := ?_) (v := ?_) (by rfl) rfl ?_ ?_
      rotate_left 2
      · go_simp
        constructor
        · rfl
        · rfl
      refine hK.out _ _ ⟨cell_al _ hHeld.1, cell_al _ hHeld.2.1, cell_al _ hHeld.2.2⟩ (fun hHeld => ?_)
      clear hK K
      refine norm_ (a' := ?_) ?_ ?_
      rotate_left
      · show Act.put _ (some 81) _ = _
        simp only [Act.put, List.setIfInBounds_toArray, List.set_cons_zero, List.set_cons_succ, i64_w, i32_w]
        rfl
      refine one_ (i := 10) (N := some 83) #[true, true, true, true, true, true, true, true, true, true, true, false, false, false, false, false, false] rfl rfl (by kernel_rfl) (by decide) (fun K hK => ?_)
      refine goes_ Try.func19 (by kernel_rfl) rfl #[.agg #[.string what, .bool alone]] (by rfl) rfl rfl (by simp only [List.map_toArray, List.map_cons, List.map_nil]; rfl) ?_
      with_reducible refine (how_calls what alone _).mono ?_
      rintro e w6 ⟨rfl, hb⟩
      refine ⟨_, rfl, ?_⟩
      refine hK.out _ _ ⟨pw_cell_below hb hHeld.1, pw_cell_below hb hHeld.2.1, pw_cell_below hb hHeld.2.2⟩ (fun hHeld => ?_)
      clear hK K
      refine norm_ (a' := ?_) ?_ ?_
      rotate_left
      · show Act.put _ (some 83) _ = _
        simp only [Act.put, List.setIfInBounds_toArray, List.set_cons_zero, List.set_cons_succ, i64_w, i32_w]
        rfl
      exact norm_ (by simp only [putAll, Act.put, List.setIfInBounds_toArray, List.set_cons_zero, List.set_cons_succ]) (hCont w5.heap.size _ ⟨hHeld, blk_below (heap_alloc_new w5.drew _) hb, Nat.le_refl _, below_step (below_alloc (below_drew1 (Below.refl _ _)) _) hb⟩)
    · skip
      refine goes_ Try.func19 (by kernel_rfl) rfl #[.agg #[.string what, .bool alone]] (by rfl) rfl rfl (by simp only [List.map_toArray, List.map_cons, List.map_nil]; rfl) ?_
      with_reducible refine (how_calls what alone _).mono ?_
      rintro e w6 ⟨rfl, hb⟩
      refine ⟨_, rfl, ?_⟩
      refine hK.out _ _ ⟨pw_cell_below hb hHeld.1, pw_cell_below hb hHeld.2.1, pw_cell_below hb hHeld.2.2⟩ (fun hHeld => ?_)
      clear hK K
      refine norm_ (a' := ?_) ?_ ?_
      rotate_left
      · show Act.put _ (some 83) _ = _
        simp only [Act.put, List.setIfInBounds_toArray, List.set_cons_zero, List.set_cons_succ, i64_w, i32_w]
        rfl
      refine one_ (i := 8) (N := some 81) #[true, true, true, true, true, true, true, true, true, true, true, false, false, false, false, false, false] rfl rfl (by kernel_rfl) (by decide) (fun K hK => ?_)
      refine value_ (w1 := ?_) (v := ?_) (by rfl) rfl ?_ ?_
      rotate_left 2
      · go_simp
        constructor
        · rfl
        · rfl
      refine hK.out _ _ ⟨cell_al _ hHeld.1, cell_al _ hHeld.2.1, cell_al _ hHeld.2.2⟩ (fun hHeld => ?_)
      clear hK K
      refine norm_ (a' := ?_) ?_ ?_
      rotate_left
      · show Act.put _ (some 81) _ = _
        simp only [Act.put, List.setIfInBounds_toArray, List.set_cons_zero, List.set_cons_succ, i64_w, i32_w]
        rfl
      exact norm_ (by simp only [putAll, Act.put, List.setIfInBounds_toArray, List.set_cons_zero, List.set_cons_succ]) (hCont w6.heap.size _ ⟨hHeld, heap_alloc_new w6 _, hb.size, below_alloc (below_step (below_drew1 (Below.refl _ _)) hb) _⟩)
  rintro g wj ⟨hHeld, hg, hle, hB⟩
  refine norm_ (a' := ?_) ?_ ?_
  rotate_left
  · simp only [putAll, Act.put, List.setIfInBounds_toArray, List.set_cons_zero, List.set_cons_succ]
    rfl
  refine pure_ (i := 11) (N := some 84) (v := ?_) (a' := ?_) #[true, true, true, true, true, true, true, true, true, true, true, true, false, false, false, false, false] rfl rfl (by kernel_rfl) (fun _ _ _ h => h) (Or.inl ⟨by rfl, ?_⟩) ?_ ?_
  rotate_left
  · intro w'
    go_simp
    with_reducible rfl
  rotate_left
  · simp only [Act.put, List.setIfInBounds_toArray, List.set_cons_zero, List.set_cons_succ, i64_w, i32_w]
    rfl
  refine one_ (i := 12) (N := some 85) #[true, true, true, true, true, true, true, true, true, true, true, true, true, false, false, false, false] rfl rfl (by kernel_rfl) (by decide) (fun K hK => ?_)
  refine value_ (w1 := ?_) (v := ?_) (by rfl) rfl ?_ ?_
  rotate_left 2
  · go_simp
    constructor
    · rfl
    · rfl
  refine hK.out _ _ ⟨cell_al _ hHeld.1, cell_al _ hHeld.2.1, cell_al _ hHeld.2.2⟩ (fun hHeld => ?_)
  clear hK K
  refine norm_ (a' := ?_) ?_ ?_
  rotate_left
  · show Act.put _ (some 85) _ = _
    simp only [Act.put, List.setIfInBounds_toArray, List.set_cons_zero, List.set_cons_succ, i64_w, i32_w]
    rfl
  refine one_ (i := 13) (N := some 86) #[true, true, true, true, true, true, true, true, true, true, true, true, true, true, false, false, false] rfl rfl (by kernel_rfl) (by decide) (fun K hK => ?_)
  refine Kd.R_append_step k51 (w0 := w) p.B (by simp [Region.wanted]) (.tmp 77) (.tmp 85) 47 51 (.agg #[.string ⟨#[]⟩, .slice none 0 0, .int .i64 0]) 48 rfl Try.underlying47 info51 rfl (by decide) (by decide) (.slice A6 l.length c6) l ⟨what, [who], howI alone⟩ _ (fun k => k ≠ p.g) (fun k => w5.heap.size ≤ k) (by simp [Act.eval, Act.put]) (by simp [Act.eval, Act.put]) ?hp ?hokp ?hfresh ?HO ?HBB ?hbase ?hl ?_
  case hp => exact k51_mkM _ _ _ _ (one_row hg (Nat.le_trans BLE.out hle) hle)
  case hokp => exact OKP.out
  case hfresh => exact fun k hk => GLT.out k (Nat.le_trans hB.size hk)
  case HO => exact Kd.R_below H5.out.row hB
  case HBB => exact BW5.out.trans (Below.mono hB BLE.out)
  case hbase => exact Nat.le_trans BLE.out hB.size
  case hl => have := HLL.out; omega
  intro v7 w7 hR7 hB7 hG7 hO7
  have g7 : w7.heap[p.g]? = some (.cells #[.slice A6 l.length c6] 49 (0, 0)) := (hG7.block p.g (blk_lt (blk_below H5.out.cells hB)) NEG.out).trans (blk_below H5.out.cells hB)
  have s70 : w7.cell? ⟨p.g, 0, none⟩ = some (.slice A6 l.length c6) := blk_cell g7 0
  have f70 : w7.frozen? ⟨p.g, 0, none⟩ = false := blk_frozen g7 0
  have s71 : w7.cell? ⟨w.heap.size, 0, none⟩ = some (.string what) := grown_cell hG7 (pw_cell_below hB q0) NEB.out
  have s72 : w7.cell? ⟨w.heap.size, 1, none⟩ = some (.bool alone) := grown_cell hG7 (pw_cell_below hB q1) NEB.out
  obtain ⟨A7, c7, hv7⟩ := Kd.R_slice hR7
  subst hv7
  refine hK.out _ _ ⟨s70, s71, s72⟩ (fun hHeld => ?_)
  clear hK K
  refine norm_ (a' := ?_) ?_ ?_
  rotate_left
  · show Act.put _ (some 86) _ = _
    simp only [Act.put, List.setIfInBounds_toArray, List.set_cons_zero, List.set_cons_succ, i64_w, i32_w]
    rfl
  refine pure_ (i := 14) (N := some 87) (v := ?_) (a' := ?_) #[true, true, true, true, true, true, true, true, true, true, true, true, true, true, true, false, false] rfl rfl (by kernel_rfl) (fun _ _ _ h => h) (Or.inl ⟨by rfl, ?_⟩) ?_ ?_
  rotate_left
  · intro w'
    go_simp
    with_reducible rfl
  rotate_left
  · simp only [Act.put, List.setIfInBounds_toArray, List.set_cons_zero, List.set_cons_succ, i64_w, i32_w]
    rfl
  refine pure_ (i := 15) (N := some 88) (v := ?_) (a' := ?_) #[true, true, true, true, true, true, true, true, true, true, true, true, true, true, true, true, false] rfl rfl (by kernel_rfl) (fun _ _ _ h => h) (Or.inl ⟨by rfl, ?_⟩) ?_ ?_
  rotate_left
  · intro w'
    go_simp
    with_reducible rfl
  rotate_left
  · simp only [Act.put, List.setIfInBounds_toArray, List.set_cons_zero, List.set_cons_succ, i64_w, i32_w]
    rfl
  refine last_ (i := 16) (N := none) #[true, true, true, true, true, true, true, true, true, true, true, true, true, true, true, true, true] rfl rfl (by kernel_rfl) (by decide) (fun K hK => ?_)
  refine skip_ (w1 := ?_) (by rfl) rfl ?_ ?_
  rotate_left
  · go_simp
    rfl
  refine hK.out _ _ ?_
  clear hK K
  refine done_ (by kernel_rfl) ?_

  have R7 : Kd.R k51 51 w7 p.B (fun k => k ≠ p.g) (.slice A7 (l.length + 1) c7) (l ++ [⟨what, [who], howI alone⟩]) := by first | exact hR7 | (rw [List.length_append, List.length_singleton] at hR7; exact hR7)
  have T7 := Aside0.mk (tab_put g7 R7 H5.out.bg WID.out (by rw [List.length_append, List.length_singleton]; exact HLL.out))
  have F7 := Aside0.mk (show Far p.g (Value.slice A6 l.length c6).ownBlock w (w7.setCell ⟨p.g, 0, none⟩ (.slice A7 (l.length + 1) c7)) from fun q hq h1 h2 => (Below.heap_setCell _ _ _ _ h1).trans ((hG7.block q (Nat.lt_of_lt_of_le hq (below_step HB5.out hB).size) h2).trans ((below_step HB5.out hB).block q hq)))
  have B7 := Aside0.mk (hB7.setCell (p := ⟨p.g, 0, none⟩) H5.out.bg (.slice A7 (l.length + 1) c7))
  clear hR7 R7 hB7 hG7 hO7 s70 f70 s71 s72 g7
  go_wp2
  go_ret2
  exact ⟨rfl, ⟨_, T7.out⟩, B7.out, F7.out⟩
end Go.Proofs.Ytonbonailghjjaa.Lk
