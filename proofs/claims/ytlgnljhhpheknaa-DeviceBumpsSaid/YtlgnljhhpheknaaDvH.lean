/- The law DeviceBumps's own function, walked. -/
import Derived.Test.YtlgnljhhpheknaaDvG
namespace Go.Proofs.Ytlgnljhhpheknaa.Dv
open Go.RowKit Go.Proofs.YtlgnljhhpheknaaW.PrintWords Go.Proofs.YtlgnljhhpheknaaW.PrintLast Go.Proofs.YtlgnljhhpheknaaW.PrintMore Go.Proofs.Ytlgnljhhpheknaa.XB Go.Proofs.Ytlgnljhhpheknaa.PDeviceBumps
attribute [local go_sem] max2_int min2_int max_two min_two max_three min_three max_four min_four
set_option linter.unusedVariables false
set_option linter.unusedSimpArgs false
/-- a bump, with power or without -/
theorem bump_all (w : World) (d g : Nat) (key reg r : ByteArray) (n a : Int) (sv mv cv : Value) (dd : Bool) (L : List S48) (lo hi : Nat) (hr : r.size = 33) (h : DevC w d key reg n g) (hd : DiskC w g sv mv (.slice none 0 0) a cv dd) (hc : Cuts w cv L lo hi)
    (hg : hi ≤ g) (hgd : g ≠ d) (a0 : 0 ≤ a) (a1 : a < 4611686018427387904) (n0 : 0 ≤ n) (n1 : n < 4611686018427387904) :
    Calls Try.prog 9 #[.pointer (some ⟨d, 0, none⟩), .string r] w fun e w' => ∃ (x : Bool) (a' : Int) (mv' : Value), e = .returned (.int .i64 (errP x)) ∧ (dd = true ∧ x = true ∧ a' = a ∨ dd = false ∧ a' = a + 1) ∧ DevC w' d key (if x then reg else r) (if x then n else n + 1) g ∧
      DiskC w' g sv mv' (.slice none 0 0) a' cv x ∧ Upd (fun k => k = g ∨ k = d) w w' := by
  cases dd with
  | true => exact (bump_dead w d g key reg r n a sv mv _ cv hr h hd).mono fun e w' ⟨h1, h2⟩ => ⟨true, a, mv, h1, .inl ⟨rfl, rfl, rfl⟩, by rw [h2]; exact h, by rw [h2]; exact hd, by rw [h2]; exact Upd.refl _ _⟩
  | false => exact (bump_calls w d g key reg r n a sv mv cv L lo hi hr h hd hc hg hgd a0 a1 n0 n1).mono fun e w' ⟨h1, h2, ⟨mv', h3⟩, h4⟩ => ⟨_, _, mv', h1, .inr ⟨rfl, rfl⟩, h2, h3, h4⟩
theorem C_cut {A : Option Addr} {n k : Nat} {L : List S48} {w : World} (h : Kd.C k48 w A n L) (hk : k ≤ n) : Kd.C k48 w A k (L.take k) := by
  have e := h.1
  subst e
  have h2 := Kd.C_take (k := k48) h hk
  have e2 : (L.take k).length = k := by rw [List.length_take]; omega
  rw [e2] at h2
  exact h2
theorem wrap_a {a : Int} {j : Nat} (h0 : 0 ≤ a) (h1 : a ≤ j) (hj : j ≤ 40) : wrap64 (a + 1) = a + 1 := w64 (by omega) (by omega)
theorem wrap_N {a : Int} {j : Nat} (h0 : 0 ≤ a) (h1 : a ≤ j) (hj : j ≤ 40) : IntKind.u64.wrap (a + 1) = a + 1 := wu64s (by omega) (by omega)
theorem lt_big {a : Int} {j : Nat} (h1 : a ≤ j) (hj : j ≤ 40) : a < 4611686018427387904 := by omega
theorem le_same {a : Int} {j : Nat} (h0 : 0 ≤ a) (h1 : a ≤ j) : 0 ≤ a ∧ a ≤ ((j + 1 : Nat) : Int) := by omega
theorem le_more {a : Int} {j : Nat} (h0 : 0 ≤ a) (h1 : a ≤ j) : 0 ≤ a + 1 ∧ a + 1 ≤ ((j + 1 : Nat) : Int) := by omega
theorem not_two {k g d : Nat} (h : k < g) (h2 : g < d) : ¬ (k = g ∨ k = d) := by omega
theorem two_ge {W g d : Nat} (h : W ≤ g) (h2 : g < d) : ∀ k, (k = g ∨ k = d) → W ≤ k := by omega
theorem meas40 {j : Nat} (h : j < 40) : 40 - ((j : Int) + 1).toNat < 40 - ((j : Int)).toNat := by omega
set_option maxHeartbeats 8000000 in
set_option maxRecDepth 100000 in
theorem bumps_law (A : Option Addr) (n c : Nat) (L : List S48) (B : Option Addr) (m c2 : Nat) (ys : List Int) (C : Option Addr) (q c3 : Nat) (bs : List Bool) (w : World)
    (hA : Kd.C k48 w A n L) (hn : n ≤ c) (hB : ReadsOf (Value.int .u8) 0 w B m ys) (hC : ReadsOf Value.bool false w C q bs) :
    Calls Try.prog 4 #[.slice A n c, .slice B m c2, .slice C q c3] w fun e w' => e = .returned (.bool true) ∧ Below w.heap.size w w' := by
  have HRA := Aside0.mk hA
  have HRB := Aside0.mk hB
  have HRC := Aside0.mk hC
  have hm1 := hB.2.1
  have hq1 := hC.2.1
  have hn1 := hA.2.1
  clear hA hB hC
  go_enter Try.func4, Try.ntmps4
  go_wp2_with (first | (go_at_call 8; fail))
  all_goals
    refine (made_calls A _ c _ w (C_cut HRA.out (by omega)) (by omega)).mono ?_
    rintro e w1 ⟨d, g, sv, mv, cv, rfl, hg, hgd, hv, hd, hc, hb⟩
    have HB := Aside0.mk hb
    have HV := Aside0.mk hv
    have HD := Aside0.mk hd
    have HC := Aside0.mk hc
    clear hv hd hc hb
    go_wp2_with (first | (go_at_call 7; fail))
    refine (word_calls 0 w1).mono ?_
    rintro e w2 ⟨rfl, hb⟩
    have HB2 := Aside0.mk (below_step HB.out hb)
    have HV2 := Aside0.mk (show DevC w2 d K0 (wd 0) 0 g from blk_below HV.out hb)
    have HD2 := Aside0.mk (show DiskC w2 g sv mv (.slice none 0 0) 0 cv false from blk_below HD.out hb)
    have HC2 := Aside0.mk (Cuts.move HC.out (fun k _ hk => hb.block k (Nat.lt_trans hk (blk_lt HD.out))))
    clear hb HB HV HD HC
    go_wp2_with (first | (go_at_call 10; fail))
    refine (awake_calls w2).mono ?_
    rintro e w3 ⟨rfl, hb⟩
    have HB := Aside0.mk (below_step HB2.out hb)
    have HV := Aside0.mk (show DevC w3 d K0 (wd 0) 0 g from blk_below HV2.out hb)
    have HD := Aside0.mk (show DiskC w3 g sv mv (.slice none 0 0) 0 cv false from blk_below HD2.out hb)
    have HC := Aside0.mk (Cuts.move HC2.out (fun k _ hk => hb.block k (Nat.lt_trans hk (blk_lt HD2.out))))
    clear hb HB2 HV2 HD2 HC2
    go_wp2_with (first | (go_at_call 12; fail))
    refine (register_calls w3 d g K0 (wd 0) 0 HV.out).mono ?_
    rintro e w4 ⟨rfl, e7⟩
    have e8 := e7.symm
    clear e7
    subst e8
    go_wp2
    go_loopw [9, 10, 11] (fun v9 v10 v11 w' => ∃ (j : Nat) (N a : Int) (r : ByteArray) (dd : Bool) (mv' : Value), j ≤ 40 ∧ v11 = .int .i64 (j : Int) ∧ v9 = .int .u64 N ∧ v10 = .string r ∧ (0 ≤ N ∧ N ≤ j) ∧ (0 ≤ a ∧ a ≤ j) ∧ r.size = 33 ∧ Aside0 (DevC w' d K0 r N g) ∧ Aside0 (DiskC w' g sv mv' (.slice none 0 0) a cv dd) ∧ Aside0 (∃ L', Cuts w' cv L' w.heap.size g) ∧ Aside0 (Below w.heap.size w w')) (fun _ _ i _ => 40 - (intOf i).toNat)
    case atStart => exact ⟨0, 0, 0, wd 0, false, mv, by decide, rfl, rfl, rfl, ⟨by decide, by decide⟩, ⟨by decide, by decide⟩, wd_size 0, HV, HD, ⟨_, HC.out⟩, HB⟩
    case round =>
      clear HB HV HD HC
      obtain ⟨j, N, a, r, dd, mv', hj, rfl, rfl, rfl, ⟨hN0, hN1⟩, ⟨ha0, ha1⟩, hrs, HV, HD, HC, HB⟩ := hrel
      by_cases hlt : j < m ∧ j < 40
      · obtain ⟨hl1, hl2⟩ := hlt
        have q0 : decide ((j : Int) < (m : Int)) = true := decide_eq_true (by omega)
        have q1 : decide ((j : Int) < 40) = true := decide_eq_true (by omega)
        have q0n : decide (j < m) = true := decide_eq_true hl1
        have q1n : decide (j < 40) = true := decide_eq_true hl2
        have WJ := Aside0.mk (show wrap64 ((j : Int) + 1) = (j : Int) + 1 from wrap_a (Int.natCast_nonneg j) (Int.le_refl _) hj)
        have WA := Aside0.mk (wrap_a ha0 ha1 hj)
        have WN := Aside0.mk (wrap_N hN0 hN1 hj)
        have j0 : (0 : Int) ≤ (j : Int) := by omega
        have j1 : (j : Int) < (m : Int) := by omega
        have ep1 : errP true = 7 := rfl
        have ep0 : errP false = 0 := rfl
        obtain ⟨adl, hB0, hcl⟩ := HRB.out.2.2 (by omega)
        subst hB0
        have hcj := hcl j hl1
        obtain ⟨cc, hcc⟩ : ∃ cc, ys.getD j 0 = cc := ⟨_, rfl⟩
        rw [hcc] at hcj
        have HJ := Aside0.mk hcj
        clear hcl hcj hcc
        by_cases hu : j < q
        · obtain ⟨adu, hC0, hcu⟩ := HRC.out.2.2 (by omega)
          subst hC0
          have huj := pw_cell_below HB.out (hcu j hu)
          clear hcu
          have j2 : (j : Int) < (q : Int) := by omega
          have q2 : decide ((j : Int) < (q : Int)) = true := decide_eq_true j2
          have q2n : decide (j < q) = true := decide_eq_true hu
          cases hbv : bs.getD j false with
          | true =>
            rw [hbv] at huj
            clear hbv
            go_wp2_with (first | (go_at_call 14; fail))
            refine (up_calls _ g sv mv' (.slice none 0 0) cv a dd HD.out).mono ?_
            rintro e w5 ⟨rfl, hd5, hu5⟩
            have HV5 := Aside0.mk (show DevC w5 d K0 r N g from hu5.blk HV.out (Nat.ne_of_gt hgd))
            have HC5 := Aside0.mk (show ∃ L', Cuts w5 cv L' w.heap.size g from by
              obtain ⟨L', h⟩ := HC.out
              exact ⟨L', h.move fun k _ hk => hu5.block k (Nat.lt_trans hk (blk_lt HD.out)) (Nat.ne_of_lt hk)⟩)
            have HB5 := Aside0.mk (HB.out.trans (hu5.below HB.out.size (fun k hk => by subst hk; exact hg)))
            obtain ⟨dd, hdd⟩ : ∃ b, b = false := ⟨_, rfl⟩
            rw [← hdd] at hd5
            have HD5 := Aside0.mk hd5
            clear hdd
            clear HV HD HC HB hd5 hu5 huj
            have HV := HV5
            have HD := HD5
            have HC := HC5
            have HB := HB5
            clear HV5 HD5 HC5 HB5
            go_wp2_with (first | (go_at_call 15; fail))
            refine (acts_calls _ g sv _ _ cv a _ HD.out).mono ?_
            rintro e w6 ⟨rfl, e7⟩
            subst e7
            go_wp2_with (first | (go_at_call 16; fail))
            refine (dead_calls _ g sv _ _ cv a dd HD.out).mono ?_
            rintro e w7 ⟨rfl, e7⟩
            subst e7
            have hj7 := pw_cell_below HB.out HJ.out
            go_wp2_with (first | (go_at_call 7; fail))
            refine (word_calls cc _).mono ?_
            rintro e w8 ⟨rfl, hb⟩
            have HV8 := Aside0.mk (show DevC w8 d K0 r N g from blk_below HV.out hb)
            have HD8 := Aside0.mk (show DiskC w8 g sv mv' (.slice none 0 0) a cv dd from blk_below HD.out hb)
            have HC8 := Aside0.mk (show ∃ L', Cuts w8 cv L' w.heap.size g from by
              obtain ⟨L', h⟩ := HC.out
              exact ⟨L', h.move fun k _ hk => hb.block k (Nat.lt_trans hk (blk_lt HD.out))⟩)
            have HB8 := Aside0.mk (below_step HB.out hb)
            clear HV HD HC HB hb
            clear hj7
            go_wp2_with (first | (go_at_call 9; fail))
            obtain ⟨L', hL'⟩ := HC8.out
            refine (bump_all w8 d g K0 r (wd cc) N a sv mv' cv dd L' w.heap.size g (wd_size cc) HV8.out HD8.out hL' (Nat.le_refl _) (Nat.ne_of_lt hgd) ha0 (lt_big ha1 hj) hN0 (lt_big hN1 hj)).mono ?_
            rintro e w9 ⟨x, a', mv9, rfl, hx, hv, hd, hu9⟩
            have HC := Aside0.mk (show ∃ L', Cuts w9 cv L' w.heap.size g from ⟨L', hL'.move fun k hk1 hk => hu9.block k (Nat.lt_trans hk (blk_lt HD8.out)) (not_two hk hgd)⟩)
            have HB := Aside0.mk (HB8.out.trans (hu9.below HB8.out.size (two_ge hg hgd)))
            clear HV8 HD8 HC8 HB8 hL' hu9
            rcases hx with ⟨h1, rfl, rfl⟩ | ⟨h1, rfl⟩
            · cases h1
              have HV := Aside0.mk (show DevC w9 d K0 r N g from hv)
              have HD := Aside0.mk (show DiskC w9 g sv mv9 (.slice none 0 0) a' cv true from hd)
              clear hv hd
              have wa := WA.out
              have hj9 := pw_cell_below HB.out HJ.out
              go_wp2_with (first
                | (go_at_call 16; (with_reducible refine (dead_calls _ g sv mv9 _ cv a' true HD.out).mono ?_); rintro e w11 ⟨rfl, e7⟩; subst e7)
                | (go_at_call 15; (with_reducible refine (acts_calls _ g sv mv9 _ cv a' true HD.out).mono ?_); rintro e w11 ⟨rfl, e7⟩; subst e7)
                | (go_at_call 11; (with_reducible refine (counter_calls _ d g K0 r N HV.out).mono ?_); rintro e w11 ⟨rfl, e7⟩; subst e7)
                | (go_at_call 12; (with_reducible refine (register_calls _ d g K0 r N HV.out).mono ?_); rintro e w11 ⟨rfl, e7⟩; subst e7))
              exact ⟨⟨j + 1, N, a', r, true, mv9, hl2, rfl, rfl, rfl, le_same hN0 hN1, le_same ha0 ha1, hrs, HV, HD, HC, HB⟩, meas40 hl2⟩
            · cases h1
              cases x with
              | true =>
                have HV := Aside0.mk (show DevC w9 d K0 r N g from hv)
                have HD := Aside0.mk (show DiskC w9 g sv mv9 (.slice none 0 0) (a + 1) cv true from hd)
                clear hv hd
                have wa := WA.out
                have hj9 := pw_cell_below HB.out HJ.out
                go_wp2_with (first
                  | (go_at_call 16; (with_reducible refine (dead_calls _ g sv mv9 _ cv (a + 1) true HD.out).mono ?_); rintro e w11 ⟨rfl, e7⟩; subst e7)
                  | (go_at_call 15; (with_reducible refine (acts_calls _ g sv mv9 _ cv (a + 1) true HD.out).mono ?_); rintro e w11 ⟨rfl, e7⟩; subst e7)
                  | (go_at_call 11; (with_reducible refine (counter_calls _ d g K0 r N HV.out).mono ?_); rintro e w11 ⟨rfl, e7⟩; subst e7)
                  | (go_at_call 12; (with_reducible refine (register_calls _ d g K0 r N HV.out).mono ?_); rintro e w11 ⟨rfl, e7⟩; subst e7))
                exact ⟨⟨j + 1, N, (a + 1), r, true, mv9, hl2, rfl, rfl, rfl, le_same hN0 hN1, le_more ha0 ha1, hrs, HV, HD, HC, HB⟩, meas40 hl2⟩
              | false =>
                have HV := Aside0.mk (show DevC w9 d K0 (wd cc) (N + 1) g from hv)
                have HD := Aside0.mk (show DiskC w9 g sv mv9 (.slice none 0 0) (a + 1) cv false from hd)
                clear hv hd
                have wa := WA.out
                have wN := WN.out
                have hj9 := pw_cell_below HB.out HJ.out
                go_wp2_with (first | (go_at_call 7; fail))
                refine (word_calls cc _).mono ?_
                rintro e w10 ⟨rfl, hb⟩
                have HV8 := Aside0.mk (show DevC w10 d K0 (wd cc) (N + 1) g from blk_below HV.out hb)
                have HD8 := Aside0.mk (show DiskC w10 g sv mv9 (.slice none 0 0) (a + 1) cv false from blk_below HD.out hb)
                have HC8 := Aside0.mk (show ∃ L', Cuts w10 cv L' w.heap.size g from by
                  obtain ⟨L', h⟩ := HC.out
                  exact ⟨L', h.move fun k _ hk => hb.block k (Nat.lt_trans hk (blk_lt HD.out))⟩)
                have HB8 := Aside0.mk (below_step HB.out hb)
                clear HV HD HC HB hb
                have HV := HV8
                have HD := HD8
                have HC := HC8
                have HB := HB8
                clear HV8 HD8 HC8 HB8 hj9
                go_wp2_with (first
                  | (go_at_call 16; (with_reducible refine (dead_calls _ g sv mv9 _ cv (a + 1) false HD.out).mono ?_); rintro e w11 ⟨rfl, e7⟩; subst e7)
                  | (go_at_call 15; (with_reducible refine (acts_calls _ g sv mv9 _ cv (a + 1) false HD.out).mono ?_); rintro e w11 ⟨rfl, e7⟩; subst e7)
                  | (go_at_call 11; (with_reducible refine (counter_calls _ d g K0 (wd cc) (N + 1) HV.out).mono ?_); rintro e w11 ⟨rfl, e7⟩; subst e7)
                  | (go_at_call 12; (with_reducible refine (register_calls _ d g K0 (wd cc) (N + 1) HV.out).mono ?_); rintro e w11 ⟨rfl, e7⟩; subst e7))
                exact ⟨⟨j + 1, (N + 1), (a + 1), (wd cc), false, mv9, hl2, rfl, rfl, rfl, le_more hN0 hN1, le_more ha0 ha1, wd_size cc, HV, HD, HC, HB⟩, meas40 hl2⟩
          | false =>
            rw [hbv] at huj
            clear hbv
            go_wp2_with (first | (go_at_call 15; fail))
            refine (acts_calls _ g sv _ _ cv a _ HD.out).mono ?_
            rintro e w6 ⟨rfl, e7⟩
            subst e7
            go_wp2_with (first | (go_at_call 16; fail))
            refine (dead_calls _ g sv _ _ cv a dd HD.out).mono ?_
            rintro e w7 ⟨rfl, e7⟩
            subst e7
            have hj7 := pw_cell_below HB.out HJ.out
            go_wp2_with (first | (go_at_call 7; fail))
            refine (word_calls cc _).mono ?_
            rintro e w8 ⟨rfl, hb⟩
            have HV8 := Aside0.mk (show DevC w8 d K0 r N g from blk_below HV.out hb)
            have HD8 := Aside0.mk (show DiskC w8 g sv mv' (.slice none 0 0) a cv dd from blk_below HD.out hb)
            have HC8 := Aside0.mk (show ∃ L', Cuts w8 cv L' w.heap.size g from by
              obtain ⟨L', h⟩ := HC.out
              exact ⟨L', h.move fun k _ hk => hb.block k (Nat.lt_trans hk (blk_lt HD.out))⟩)
            have HB8 := Aside0.mk (below_step HB.out hb)
            clear HV HD HC HB hb
            clear hj7
            go_wp2_with (first | (go_at_call 9; fail))
            obtain ⟨L', hL'⟩ := HC8.out
            refine (bump_all w8 d g K0 r (wd cc) N a sv mv' cv dd L' w.heap.size g (wd_size cc) HV8.out HD8.out hL' (Nat.le_refl _) (Nat.ne_of_lt hgd) ha0 (lt_big ha1 hj) hN0 (lt_big hN1 hj)).mono ?_
            rintro e w9 ⟨x, a', mv9, rfl, hx, hv, hd, hu9⟩
            have HC := Aside0.mk (show ∃ L', Cuts w9 cv L' w.heap.size g from ⟨L', hL'.move fun k hk1 hk => hu9.block k (Nat.lt_trans hk (blk_lt HD8.out)) (not_two hk hgd)⟩)
            have HB := Aside0.mk (HB8.out.trans (hu9.below HB8.out.size (two_ge hg hgd)))
            clear HV8 HD8 HC8 HB8 hL' hu9
            rcases hx with ⟨h1, rfl, rfl⟩ | ⟨h1, rfl⟩
            · cases h1
              have HV := Aside0.mk (show DevC w9 d K0 r N g from hv)
              have HD := Aside0.mk (show DiskC w9 g sv mv9 (.slice none 0 0) a' cv true from hd)
              clear hv hd
              have wa := WA.out
              have hj9 := pw_cell_below HB.out HJ.out
              go_wp2_with (first
                | (go_at_call 16; (with_reducible refine (dead_calls _ g sv mv9 _ cv a' true HD.out).mono ?_); rintro e w11 ⟨rfl, e7⟩; subst e7)
                | (go_at_call 15; (with_reducible refine (acts_calls _ g sv mv9 _ cv a' true HD.out).mono ?_); rintro e w11 ⟨rfl, e7⟩; subst e7)
                | (go_at_call 11; (with_reducible refine (counter_calls _ d g K0 r N HV.out).mono ?_); rintro e w11 ⟨rfl, e7⟩; subst e7)
                | (go_at_call 12; (with_reducible refine (register_calls _ d g K0 r N HV.out).mono ?_); rintro e w11 ⟨rfl, e7⟩; subst e7))
              exact ⟨⟨j + 1, N, a', r, true, mv9, hl2, rfl, rfl, rfl, le_same hN0 hN1, le_same ha0 ha1, hrs, HV, HD, HC, HB⟩, meas40 hl2⟩
            · cases h1
              cases x with
              | true =>
                have HV := Aside0.mk (show DevC w9 d K0 r N g from hv)
                have HD := Aside0.mk (show DiskC w9 g sv mv9 (.slice none 0 0) (a + 1) cv true from hd)
                clear hv hd
                have wa := WA.out
                have hj9 := pw_cell_below HB.out HJ.out
                go_wp2_with (first
                  | (go_at_call 16; (with_reducible refine (dead_calls _ g sv mv9 _ cv (a + 1) true HD.out).mono ?_); rintro e w11 ⟨rfl, e7⟩; subst e7)
                  | (go_at_call 15; (with_reducible refine (acts_calls _ g sv mv9 _ cv (a + 1) true HD.out).mono ?_); rintro e w11 ⟨rfl, e7⟩; subst e7)
                  | (go_at_call 11; (with_reducible refine (counter_calls _ d g K0 r N HV.out).mono ?_); rintro e w11 ⟨rfl, e7⟩; subst e7)
                  | (go_at_call 12; (with_reducible refine (register_calls _ d g K0 r N HV.out).mono ?_); rintro e w11 ⟨rfl, e7⟩; subst e7))
                exact ⟨⟨j + 1, N, (a + 1), r, true, mv9, hl2, rfl, rfl, rfl, le_same hN0 hN1, le_more ha0 ha1, hrs, HV, HD, HC, HB⟩, meas40 hl2⟩
              | false =>
                have HV := Aside0.mk (show DevC w9 d K0 (wd cc) (N + 1) g from hv)
                have HD := Aside0.mk (show DiskC w9 g sv mv9 (.slice none 0 0) (a + 1) cv false from hd)
                clear hv hd
                have wa := WA.out
                have wN := WN.out
                have hj9 := pw_cell_below HB.out HJ.out
                go_wp2_with (first | (go_at_call 7; fail))
                refine (word_calls cc _).mono ?_
                rintro e w10 ⟨rfl, hb⟩
                have HV8 := Aside0.mk (show DevC w10 d K0 (wd cc) (N + 1) g from blk_below HV.out hb)
                have HD8 := Aside0.mk (show DiskC w10 g sv mv9 (.slice none 0 0) (a + 1) cv false from blk_below HD.out hb)
                have HC8 := Aside0.mk (show ∃ L', Cuts w10 cv L' w.heap.size g from by
                  obtain ⟨L', h⟩ := HC.out
                  exact ⟨L', h.move fun k _ hk => hb.block k (Nat.lt_trans hk (blk_lt HD.out))⟩)
                have HB8 := Aside0.mk (below_step HB.out hb)
                clear HV HD HC HB hb
                have HV := HV8
                have HD := HD8
                have HC := HC8
                have HB := HB8
                clear HV8 HD8 HC8 HB8 hj9
                go_wp2_with (first
                  | (go_at_call 16; (with_reducible refine (dead_calls _ g sv mv9 _ cv (a + 1) false HD.out).mono ?_); rintro e w11 ⟨rfl, e7⟩; subst e7)
                  | (go_at_call 15; (with_reducible refine (acts_calls _ g sv mv9 _ cv (a + 1) false HD.out).mono ?_); rintro e w11 ⟨rfl, e7⟩; subst e7)
                  | (go_at_call 11; (with_reducible refine (counter_calls _ d g K0 (wd cc) (N + 1) HV.out).mono ?_); rintro e w11 ⟨rfl, e7⟩; subst e7)
                  | (go_at_call 12; (with_reducible refine (register_calls _ d g K0 (wd cc) (N + 1) HV.out).mono ?_); rintro e w11 ⟨rfl, e7⟩; subst e7))
                exact ⟨⟨j + 1, (N + 1), (a + 1), (wd cc), false, mv9, hl2, rfl, rfl, rfl, le_more hN0 hN1, le_more ha0 ha1, wd_size cc, HV, HD, HC, HB⟩, meas40 hl2⟩
        · have q2 : decide ((j : Int) < (q : Int)) = false := decide_eq_false (by omega)
          have q2n : decide (j < q) = false := decide_eq_false hu
          go_wp2_with (first | (go_at_call 15; fail))
          refine (acts_calls _ g sv _ _ cv a _ HD.out).mono ?_
          rintro e w6 ⟨rfl, e7⟩
          subst e7
          go_wp2_with (first | (go_at_call 16; fail))
          refine (dead_calls _ g sv _ _ cv a dd HD.out).mono ?_
          rintro e w7 ⟨rfl, e7⟩
          subst e7
          have hj7 := pw_cell_below HB.out HJ.out
          go_wp2_with (first | (go_at_call 7; fail))
          refine (word_calls cc _).mono ?_
          rintro e w8 ⟨rfl, hb⟩
          have HV8 := Aside0.mk (show DevC w8 d K0 r N g from blk_below HV.out hb)
          have HD8 := Aside0.mk (show DiskC w8 g sv mv' (.slice none 0 0) a cv dd from blk_below HD.out hb)
          have HC8 := Aside0.mk (show ∃ L', Cuts w8 cv L' w.heap.size g from by
            obtain ⟨L', h⟩ := HC.out
            exact ⟨L', h.move fun k _ hk => hb.block k (Nat.lt_trans hk (blk_lt HD.out))⟩)
          have HB8 := Aside0.mk (below_step HB.out hb)
          clear HV HD HC HB hb
          clear hj7
          go_wp2_with (first | (go_at_call 9; fail))
          obtain ⟨L', hL'⟩ := HC8.out
          refine (bump_all w8 d g K0 r (wd cc) N a sv mv' cv dd L' w.heap.size g (wd_size cc) HV8.out HD8.out hL' (Nat.le_refl _) (Nat.ne_of_lt hgd) ha0 (lt_big ha1 hj) hN0 (lt_big hN1 hj)).mono ?_
          rintro e w9 ⟨x, a', mv9, rfl, hx, hv, hd, hu9⟩
          have HC := Aside0.mk (show ∃ L', Cuts w9 cv L' w.heap.size g from ⟨L', hL'.move fun k hk1 hk => hu9.block k (Nat.lt_trans hk (blk_lt HD8.out)) (not_two hk hgd)⟩)
          have HB := Aside0.mk (HB8.out.trans (hu9.below HB8.out.size (two_ge hg hgd)))
          clear HV8 HD8 HC8 HB8 hL' hu9
          rcases hx with ⟨h1, rfl, rfl⟩ | ⟨h1, rfl⟩
          · cases h1
            have HV := Aside0.mk (show DevC w9 d K0 r N g from hv)
            have HD := Aside0.mk (show DiskC w9 g sv mv9 (.slice none 0 0) a' cv true from hd)
            clear hv hd
            have wa := WA.out
            have hj9 := pw_cell_below HB.out HJ.out
            go_wp2_with (first
              | (go_at_call 16; (with_reducible refine (dead_calls _ g sv mv9 _ cv a' true HD.out).mono ?_); rintro e w11 ⟨rfl, e7⟩; subst e7)
              | (go_at_call 15; (with_reducible refine (acts_calls _ g sv mv9 _ cv a' true HD.out).mono ?_); rintro e w11 ⟨rfl, e7⟩; subst e7)
              | (go_at_call 11; (with_reducible refine (counter_calls _ d g K0 r N HV.out).mono ?_); rintro e w11 ⟨rfl, e7⟩; subst e7)
              | (go_at_call 12; (with_reducible refine (register_calls _ d g K0 r N HV.out).mono ?_); rintro e w11 ⟨rfl, e7⟩; subst e7))
            exact ⟨⟨j + 1, N, a', r, true, mv9, hl2, rfl, rfl, rfl, le_same hN0 hN1, le_same ha0 ha1, hrs, HV, HD, HC, HB⟩, meas40 hl2⟩
          · cases h1
            cases x with
            | true =>
              have HV := Aside0.mk (show DevC w9 d K0 r N g from hv)
              have HD := Aside0.mk (show DiskC w9 g sv mv9 (.slice none 0 0) (a + 1) cv true from hd)
              clear hv hd
              have wa := WA.out
              have hj9 := pw_cell_below HB.out HJ.out
              go_wp2_with (first
                | (go_at_call 16; (with_reducible refine (dead_calls _ g sv mv9 _ cv (a + 1) true HD.out).mono ?_); rintro e w11 ⟨rfl, e7⟩; subst e7)
                | (go_at_call 15; (with_reducible refine (acts_calls _ g sv mv9 _ cv (a + 1) true HD.out).mono ?_); rintro e w11 ⟨rfl, e7⟩; subst e7)
                | (go_at_call 11; (with_reducible refine (counter_calls _ d g K0 r N HV.out).mono ?_); rintro e w11 ⟨rfl, e7⟩; subst e7)
                | (go_at_call 12; (with_reducible refine (register_calls _ d g K0 r N HV.out).mono ?_); rintro e w11 ⟨rfl, e7⟩; subst e7))
              exact ⟨⟨j + 1, N, (a + 1), r, true, mv9, hl2, rfl, rfl, rfl, le_same hN0 hN1, le_more ha0 ha1, hrs, HV, HD, HC, HB⟩, meas40 hl2⟩
            | false =>
              have HV := Aside0.mk (show DevC w9 d K0 (wd cc) (N + 1) g from hv)
              have HD := Aside0.mk (show DiskC w9 g sv mv9 (.slice none 0 0) (a + 1) cv false from hd)
              clear hv hd
              have wa := WA.out
              have wN := WN.out
              have hj9 := pw_cell_below HB.out HJ.out
              go_wp2_with (first | (go_at_call 7; fail))
              refine (word_calls cc _).mono ?_
              rintro e w10 ⟨rfl, hb⟩
              have HV8 := Aside0.mk (show DevC w10 d K0 (wd cc) (N + 1) g from blk_below HV.out hb)
              have HD8 := Aside0.mk (show DiskC w10 g sv mv9 (.slice none 0 0) (a + 1) cv false from blk_below HD.out hb)
              have HC8 := Aside0.mk (show ∃ L', Cuts w10 cv L' w.heap.size g from by
                obtain ⟨L', h⟩ := HC.out
                exact ⟨L', h.move fun k _ hk => hb.block k (Nat.lt_trans hk (blk_lt HD.out))⟩)
              have HB8 := Aside0.mk (below_step HB.out hb)
              clear HV HD HC HB hb
              have HV := HV8
              have HD := HD8
              have HC := HC8
              have HB := HB8
              clear HV8 HD8 HC8 HB8 hj9
              go_wp2_with (first
                | (go_at_call 16; (with_reducible refine (dead_calls _ g sv mv9 _ cv (a + 1) false HD.out).mono ?_); rintro e w11 ⟨rfl, e7⟩; subst e7)
                | (go_at_call 15; (with_reducible refine (acts_calls _ g sv mv9 _ cv (a + 1) false HD.out).mono ?_); rintro e w11 ⟨rfl, e7⟩; subst e7)
                | (go_at_call 11; (with_reducible refine (counter_calls _ d g K0 (wd cc) (N + 1) HV.out).mono ?_); rintro e w11 ⟨rfl, e7⟩; subst e7)
                | (go_at_call 12; (with_reducible refine (register_calls _ d g K0 (wd cc) (N + 1) HV.out).mono ?_); rintro e w11 ⟨rfl, e7⟩; subst e7))
              exact ⟨⟨j + 1, (N + 1), (a + 1), (wd cc), false, mv9, hl2, rfl, rfl, rfl, le_more hN0 hN1, le_more ha0 ha1, wd_size cc, HV, HD, HC, HB⟩, meas40 hl2⟩
      · have hkey : Calls Try.prog 13 #[.pointer (some ⟨d, 0, none⟩)] wr fun e w' => e = .returned (.string ⟨#[48, 49, 50, 51, 52, 53, 54, 55, 56, 57, 97, 98, 99, 100, 101, 102, 48, 49, 50, 51, 52, 53, 54, 55, 56, 57, 97, 98, 99, 100, 101, 102]⟩) ∧ w' = wr := key_calls wr d g K0 r N HV.out
        by_cases hl1 : j < m
        · have q0 : decide ((j : Int) < (m : Int)) = true := decide_eq_true (by omega)
          have q1 : decide ((j : Int) < 40) = false := decide_eq_false (by omega)
          have q0n : decide (j < m) = true := decide_eq_true hl1
          have q1n : decide (j < 40) = false := decide_eq_false (by omega)
          go_wp2_with (first | (go_at_call 13; fail))
          refine hkey.mono ?_
          clear hkey
          rintro e w6 ⟨rfl, rfl⟩
          go_wp2
          go_ret
          exact ⟨by first | rfl | simp, HB.out⟩
        · have q0 : decide ((j : Int) < (m : Int)) = false := decide_eq_false (by omega)
          have q0n : decide (j < m) = false := decide_eq_false hl1
          go_wp2_with (first | (go_at_call 13; fail))
          refine hkey.mono ?_
          clear hkey
          rintro e w6 ⟨rfl, rfl⟩
          go_wp2
          go_ret
          exact ⟨by first | rfl | simp, HB.out⟩
end Go.Proofs.Ytlgnljhhpheknaa.Dv
