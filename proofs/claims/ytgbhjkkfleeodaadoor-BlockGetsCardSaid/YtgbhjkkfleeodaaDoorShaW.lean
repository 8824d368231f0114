import Derived.Test.YtgbhjkkfleeodaaDoorShaU
import Derived.Test.YtgbhjkkfleeodaaDoorShaK
import Derived.Deep.RegionHeld3
namespace Go.Proofs.YtgbhjkkfleeodaaDoor.Sha
open Go.RowKit Go.Proofs.YtgbhjkkfleeodaaDoorW.PrintWords Go.Proofs.YtgbhjkkfleeodaaDoorW.PrintLast Go.Proofs.YtgbhjkkfleeodaaDoorW.PrintMore Go.Proofs.YtgbhjkkfleeodaaDoor.XA Go.Proofs.YtgbhjkkfleeodaaDoor.XM
open Go.Proofs.YtgbhjkkfleeodaaDoor.XB
set_option linter.unusedVariables false
set_option linter.unusedSimpArgs false
theorem turnw_2 {n : Int} (h : U n) (w : World) : Calls Tryd.prog 68 #[.int .u32 n, .int .u64 2] w fun e w'' => e = .returned (.int .u32 (rot n 2)) ∧ ∃ m, w'' = w.drewN m := turn_2 h w 0
theorem turnw_7 {n : Int} (h : U n) (w : World) : Calls Tryd.prog 68 #[.int .u32 n, .int .u64 7] w fun e w'' => e = .returned (.int .u32 (rot n 7)) ∧ ∃ m, w'' = w.drewN m := turn_7 h w 0
theorem turnw_13 {n : Int} (h : U n) (w : World) : Calls Tryd.prog 68 #[.int .u32 n, .int .u64 13] w fun e w'' => e = .returned (.int .u32 (rot n 13)) ∧ ∃ m, w'' = w.drewN m := turn_13 h w 0
theorem turnw_17 {n : Int} (h : U n) (w : World) : Calls Tryd.prog 68 #[.int .u32 n, .int .u64 17] w fun e w'' => e = .returned (.int .u32 (rot n 17)) ∧ ∃ m, w'' = w.drewN m := turn_17 h w 0
theorem turnw_18 {n : Int} (h : U n) (w : World) : Calls Tryd.prog 68 #[.int .u32 n, .int .u64 18] w fun e w'' => e = .returned (.int .u32 (rot n 18)) ∧ ∃ m, w'' = w.drewN m := turn_18 h w 0
theorem turnw_19 {n : Int} (h : U n) (w : World) : Calls Tryd.prog 68 #[.int .u32 n, .int .u64 19] w fun e w'' => e = .returned (.int .u32 (rot n 19)) ∧ ∃ m, w'' = w.drewN m := turn_19 h w 0
theorem turnw_22 {n : Int} (h : U n) (w : World) : Calls Tryd.prog 68 #[.int .u32 n, .int .u64 22] w fun e w'' => e = .returned (.int .u32 (rot n 22)) ∧ ∃ m, w'' = w.drewN m := turn_22 h w 0
def z64 : List Int := List.replicate 64 0
set_option maxHeartbeats 8000000 in
set_option maxRecDepth 100000 in
theorem words_calls (h : List Int) (hh : h.length = 8) (hu : AU h) (s : ByteArray) (hs : s.size = 64) (ss : List Int) (hss : ss.length = 64) (hsu : AU ss) (gs cs : Nat) (w : World) (hg : ∀ i, i < 64 → w.cell? ⟨gs, i, none⟩ = some (.int .u32 (ss.getD i 0))) (hg0 : gs < w.heap.size) :
    Calls Tryd.prog 53 #[.agg (arrK .u32 h), .string s, .slice (some ⟨gs, 0, none⟩) 64 cs] w fun e w' => e = .returned (.agg (arrK .u32 (addUp h (st h ss (sp s 64) 64) 8))) ∧ Below w.heap.size w w' := by
  have HB := Aside0.mk (Below.refl w.heap.size w)
  have HG := Aside0.mk hg
  have HS := Aside0.mk hs
  have HU := Aside0.mk (And.intro hu hsu)
  have km : ∀ W : World, (Instr.makeSlice 92 (.int .i64 64) (.int .i64 64)).run Tryd.prog W = .ok (.slice (some ⟨W.heap.size, 0, none⟩) 64 64) (W.alloc (.cells (arrK .u32 z64) 22)) := by
    intro W
    have := print_make (P := Tryd.prog) 92 22 .u32 4 Tryd.underlying92 (by kernel_rfl) (by decide) 64 (by decide) W
    rw [madeA] at this
    exact this
  clear hg hu hsu
  go_enter Tryd.func53, Tryd.ntmps53
  go_wp2_with (first
    | ((with_reducible refine gate_dst (N := 3) rfl ?_); refine arr_new ?hg (N := 3) ?hd h .u32 91 ?hr ?_; (case hd => rfl); (case hg => rfl); (case hr => first | (go_simp; done) | (go_simp; rfl)); intro gh eg w1 hx hb; have HH := Aside0.mk hx; have n0 := Aside0.mk (below_step HB.out hb); have LH := Aside0.mk (show w.heap.size ≤ gh by rw [eg]; exact HB.out.size); clear HB hx hb eg; have HB := n0; clear n0)
    | ((with_reducible refine gate_dst (N := 6) rfl ?_); refine arr_new ?hg (N := 6) ?hd [0, 0, 0, 0, 0, 0, 0, 0] .u32 91 ?hr ?_; (case hd => rfl); (case hg => rfl); (case hr => first | (go_simp; done) | (go_simp; rfl)); intro gr eg w2 hx hb; have n1 := Aside0.mk (HH.out.below hb); have HR := Aside0.mk hx; have n0 := Aside0.mk (below_step HB.out hb); have LR := Aside0.mk (show w.heap.size ≤ gr by rw [eg]; exact HB.out.size); have NHR := Aside0.mk (show gh ≠ gr by rw [eg]; exact Nat.ne_of_lt HH.out.lt); clear HB HH hx hb eg; have HB := n0; have HH := n1; clear n0 n1))
  have HX := Aside0.mk (show IsArr (w2.alloc (.cells (arrK .u32 z64) 22)) w2.heap.size 22 .u32 z64 from blk_new w2 _)
  have b1 := Below.refl w2.heap.size w2
  have n1 := Aside0.mk (HH.out.below (below_alloc b1 (.cells (arrK .u32 z64) 22)))
  have n2 := Aside0.mk (HR.out.below (below_alloc b1 (.cells (arrK .u32 z64) 22)))
  have n3 := Aside0.mk (below_alloc HB.out (.cells (arrK .u32 z64) 22))
  have LX := Aside0.mk (show w.heap.size ≤ w2.heap.size from HB.out.size)
  have NHX := Aside0.mk (show gh ≠ w2.heap.size from Nat.ne_of_lt HH.out.lt)
  have NRX := Aside0.mk (show gr ≠ w2.heap.size from Nat.ne_of_lt HR.out.lt)
  clear HH HR HB b1 km
  have HH := n1; have HR := n2; have HB := n3
  clear n1 n2 n3
  generalize w2.alloc (.cells (arrK .u32 z64) 22) = w3 at HX HH HR HB ⊢
  obtain ⟨gw, hgw⟩ : ∃ g, w2.heap.size = g := ⟨_, rfl⟩
  rw [hgw] at HX LX NHX NRX ⊢
  clear hgw
  go_loopw [8] (fun i wr => ∃ k : Nat, k ≤ 64 ∧ i = .int .i64 k ∧ IsArr wr gh 91 .u32 h ∧ IsArr wr gr 91 .u32 [0, 0, 0, 0, 0, 0, 0, 0] ∧ IsArr wr gw 22 .u32 (sp s k) ∧ Below w.heap.size w wr) (fun i _ => 64 - (intOf i).toNat)
  case atStart => exact ⟨0, by omega, rfl, HH.out, HR.out, HX.out, HB.out⟩
  case round =>
    clear HH HR HX HB
    obtain ⟨k, hk, rfl, hH, hR, hX, hB⟩ := hrel
    have HH := Aside0.mk hH; have HR := Aside0.mk hR; have HB := Aside0.mk hB; have HX := Aside0.mk hX
    clear hH hR hB hX
    by_cases hlt : k < 64
    · have q0 : decide ((k : Int) < 64) = true := decide_eq_true (by omega)
      have q1 : (0 : Int) ≤ k := by omega
      by_cases h16 : k < 16
      · have q2 : decide ((k : Int) < 16) = true := decide_eq_true (by omega)
        obtain ⟨xo, hxo⟩ : ∃ xo, wr.cell? ⟨gw, k, none⟩ = some (.int .u32 xo) := ⟨_, HX.out.cell k (by rw [sp_length]; omega)⟩
        have hf := HX.out.frozen k
        have g0 : (0 : Int) ≤ 4 * (k : Int) := by omega
        have g1 : (0 : Int) ≤ 4 * (k : Int) + 1 := by omega
        have g2 : (0 : Int) ≤ 4 * (k : Int) + 2 := by omega
        have g3 : (0 : Int) ≤ 4 * (k : Int) + 3 := by omega
        have l0 : 4 * (k : Int) < (s.size : Int) := by rw [HS.out]; omega
        have l1 : 4 * (k : Int) + 1 < (s.size : Int) := by rw [HS.out]; omega
        have l2 : 4 * (k : Int) + 2 < (s.size : Int) := by rw [HS.out]; omega
        have l3 : 4 * (k : Int) + 3 < (s.size : Int) := by rw [HS.out]; omega
        have t0 := bt_at s (4 * (k : Int))
        have t1 := bt_at s (4 * (k : Int) + 1)
        have t2 := bt_at s (4 * (k : Int) + 2)
        have t3 := bt_at s (4 * (k : Int) + 3)
        obtain ⟨b0, hb0⟩ : ∃ b, bt s (4 * (k : Int)) = b := ⟨_, rfl⟩
        obtain ⟨b1, hb1⟩ : ∃ b, bt s (4 * (k : Int) + 1) = b := ⟨_, rfl⟩
        obtain ⟨b2, hb2⟩ : ∃ b, bt s (4 * (k : Int) + 2) = b := ⟨_, rfl⟩
        obtain ⟨b3, hb3⟩ : ∃ b, bt s (4 * (k : Int) + 3) = b := ⟨_, rfl⟩
        have v0 := bt_range s (4 * (k : Int))
        have v1 := bt_range s (4 * (k : Int) + 1)
        have v2 := bt_range s (4 * (k : Int) + 2)
        have v3 := bt_range s (4 * (k : Int) + 3)
        rw [hb0] at t0 v0
        rw [hb1] at t1 v1
        rw [hb2] at t2 v2
        rw [hb3] at t3 v3
        have HV := Aside0.mk (show inn 0 (bytesOf (sub4 s k)) 4 = b0 * 16777216 + b1 * 65536 + b2 * 256 + b3 by
          rw [inn_four, sub4_bytes _ _ _ (by decide), sub4_bytes _ _ _ (by decide), sub4_bytes _ _ _ (by decide), sub4_bytes _ _ _ (by decide), ← hb0, ← hb1, ← hb2, ← hb3]
          rfl)
        have hlk : (k : Int) < 64 := by omega
        clear hb0 hb1 hb2 hb3
        obtain ⟨z0, z0'⟩ := v0
        obtain ⟨z1, z1'⟩ := v1
        obtain ⟨z2, z2'⟩ := v2
        obtain ⟨z3, z3'⟩ := v3
        go_wp2
        go_region
        all_goals go_wp2
        all_goals go_roundw
        case rel =>
          refine ⟨k + 1, by omega, by go_num, ?_, ?_, ?_, ?_⟩
          · exact HH.out.far NHX.out _
          · exact HR.out.far NRX.out _
          · have e : sp s (k + 1) = (sp s k).set k (b0 * 16777216 + b1 * 65536 + b2 * 256 + b3) := by
              rw [← HV.out]
              show (sp s k).set k (if k < 16 then _ else _) = _
              rw [if_pos h16, sp_zero s k k (Nat.le_refl _)]
            rw [e]
            have := HX.out.set k (b0 * 16777216 + b1 * 65536 + b2 * 256 + b3)
            exact this
          · exact below_drew1 (below_set HB.out LX.out)
        case measure => simp [intOf]; omega
      · have q2 : decide ((k : Int) < 16) = false := decide_eq_false (by omega)
        obtain ⟨xa, hxa⟩ : ∃ x, (sp s k).getD (k - 15) 0 = x := ⟨_, rfl⟩
        obtain ⟨xb, hxb⟩ : ∃ x, (sp s k).getD (k - 2) 0 = x := ⟨_, rfl⟩
        obtain ⟨xp, hxp⟩ : ∃ x, (sp s k).getD (k - 16) 0 = x := ⟨_, rfl⟩
        obtain ⟨xq, hxq⟩ : ∃ x, (sp s k).getD (k - 7) 0 = x := ⟨_, rfl⟩
        have hl := sp_length s k
        have UA := Aside0.mk (show U xa by rw [← hxa]; exact (sp_U s k).getD _)
        have UB := Aside0.mk (show U xb by rw [← hxb]; exact (sp_U s k).getD _)
        have z1 : wr.cell? ⟨gw, k - 15, none⟩ = some (.int .u32 xa) := by rw [← hxa]; exact HX.out.cell _ (by omega)
        have z2 : wr.cell? ⟨gw, k - 2, none⟩ = some (.int .u32 xb) := by rw [← hxb]; exact HX.out.cell _ (by omega)
        have q4 : (15 : Int) ≤ k := by omega
        have q5 : (2 : Int) ≤ k := by omega
        have q6 : (k : Int) - 15 < 64 := by omega
        have q7 : (k : Int) - 2 < 64 := by omega
        have q8 : (0 : Int) ≤ (k : Int) - 15 := by omega
        have q9 : (0 : Int) ≤ (k : Int) - 2 := by omega
        have qa : ((k : Int) - 15).toNat = k - 15 := by omega
        have qb : ((k : Int) - 2).toNat = k - 2 := by omega
        go_wp2
        go_quiet (fail)
        have z3 : (wr.drewN nq).cell? ⟨gw, k - 16, none⟩ = some (.int .u32 xp) := by rw [← hxp]; exact HX.out.cell _ (by omega)
        have z4 : (wr.drewN nq).cell? ⟨gw, k - 7, none⟩ = some (.int .u32 xq) := by rw [← hxq]; exact HX.out.cell _ (by omega)
        have a0 : IsArr (wr.drewN nq) gh 91 .u32 h := HH.out
        have a1 : IsArr (wr.drewN nq) gr 91 .u32 [0, 0, 0, 0, 0, 0, 0, 0] := HR.out
        have a2 : IsArr (wr.drewN nq) gw 22 .u32 (sp s k) := HX.out
        have a3 : Below w.heap.size w (wr.drewN nq) := pw_below_drewN HB.out nq
        have HE := Aside0.mk (And.intro hxa (And.intro hxb (And.intro hxp hxq)))
        clear HR HX HB HH z1 z2 hxa hxb hxp hxq q4 q5 q6 q7 q8 q9 qa qb
        generalize wr.drewN nq = wr at z3 z4 a0 a1 a2 a3 ⊢
        have hf := a2.frozen k
        obtain ⟨xo, hxo⟩ : ∃ xo, wr.cell? ⟨gw, k, none⟩ = some (.int .u32 xo) := ⟨_, a2.cell k (by omega)⟩
        have q4 : (16 : Int) ≤ k := by omega
        have q5 : (7 : Int) ≤ k := by omega
        have q6 : decide ((k : Int) - 16 < 64) = true := decide_eq_true (by omega)
        have q7 : decide ((k : Int) - 7 < 64) = true := decide_eq_true (by omega)
        have r0 : (k : Int) < 64 := by omega
        have r2 : (0 : Int) ≤ (k : Int) - 16 := by omega
        have r3 : (k : Int) - 16 < 64 := by omega
        have r4 : ((k : Int) - 16).toNat = k - 16 := by omega
        have r6 : (0 : Int) ≤ (k : Int) - 7 := by omega
        have r7 : (k : Int) - 7 < 64 := by omega
        have r8 : ((k : Int) - 7).toNat = k - 7 := by omega
        have r1 : IntKind.i64.wrap ((k : Int) - 16) = (k : Int) - 16 := by rw [IntKind.wrap_i64]; omega
        have r5 : IntKind.i64.wrap ((k : Int) - 7) = (k : Int) - 7 := by rw [IntKind.wrap_i64]; omega
        have ta : Int.tdiv xa 8 = xa / 8 := td UA.out.1
        have tb : Int.tdiv xb 1024 = xb / 1024 := td UB.out.1
        have ua0 := UA.out.1
        have ua1 := UA.out.2
        have ub0 := UB.out.1
        have ub1 := UB.out.2
        go_wp2
        go_region_held3 (fun w' => w'.cell? ⟨gw, k - 16, none⟩ = some (.int .u32 xp) ∧ w'.cell? ⟨gw, k - 7, none⟩ = some (.int .u32 xq))
          (first | exact ⟨z3, z4⟩ | exact ⟨(World.cell?_setCell_other _ _ _ _ (by intro q; injection q with _ q; omega)).trans z3, (World.cell?_setCell_other _ _ _ _ (by intro q; injection q with _ q; omega)).trans z4⟩ | go_keep)
          (first
            | (go_at_call 68; with_reducible refine (turnw_7 UA.out _).mono ?_; rintro e w' ⟨rfl, m, rfl⟩)
            | (go_at_call 68; with_reducible refine (turnw_18 UA.out _).mono ?_; rintro e w' ⟨rfl, m, rfl⟩)
            | (go_at_call 68; with_reducible refine (turnw_17 UB.out _).mono ?_; rintro e w' ⟨rfl, m, rfl⟩)
            | (go_at_call 68; with_reducible refine (turnw_19 UB.out _).mono ?_; rintro e w' ⟨rfl, m, rfl⟩))
        go_wp2
        go_roundw
        case rel =>
          refine ⟨k + 1, by omega, by go_num, IsArr.far (IsArr.drewN a0 _) NHX.out _, IsArr.far (IsArr.drewN a1 _) NRX.out _, ?_, below_set (pw_below_drewN a3 _) LX.out⟩
          have e : sp s (k + 1) = (sp s k).set k (mix xp xq xa xb) := by
            obtain ⟨e1, e2, e3, e4⟩ := HE.out
            rw [← e1, ← e2, ← e3, ← e4]
            show (sp s k).set k (if k < 16 then _ else _) = _
            rw [if_neg h16]
          rw [e, ← mix_eq]
          exact IsArr.set (IsArr.drewN a2 _) k _
        case measure => simp [intOf]; omega
    · have ek : k = 64 := by omega
      subst ek
      rw [show ((64 : Nat) : Int) = 64 from rfl]
      obtain ⟨ws, hws⟩ : ∃ ws, sp s 64 = ws := ⟨_, rfl⟩
      have hwl : ws.length = 64 := by rw [← hws]; exact sp_length s 64
      rw [hws] at HX
      have HWS := Aside0.mk hws
      have HWL := Aside0.mk hwl
      obtain ⟨h0, h1, h2, h3, h4, h5, h6, h7, rfl⟩ := eight h hh
      have y0 : wr.cell? ⟨gh, 0, none⟩ = some (.int .u32 h0) := HH.out.cell 0 (by simp)
      have y1 : wr.cell? ⟨gh, 1, none⟩ = some (.int .u32 h1) := HH.out.cell 1 (by simp)
      have y2 : wr.cell? ⟨gh, 2, none⟩ = some (.int .u32 h2) := HH.out.cell 2 (by simp)
      have y3 : wr.cell? ⟨gh, 3, none⟩ = some (.int .u32 h3) := HH.out.cell 3 (by simp)
      have y4 : wr.cell? ⟨gh, 4, none⟩ = some (.int .u32 h4) := HH.out.cell 4 (by simp)
      have y5 : wr.cell? ⟨gh, 5, none⟩ = some (.int .u32 h5) := HH.out.cell 5 (by simp)
      have y6 : wr.cell? ⟨gh, 6, none⟩ = some (.int .u32 h6) := HH.out.cell 6 (by simp)
      have y7 : wr.cell? ⟨gh, 7, none⟩ = some (.int .u32 h7) := HH.out.cell 7 (by simp)
      clear hws hwl hk hlt
      go_wp2
      go_quiet (fail)
      have G := Aside0.mk (And.intro (HH.out.drewN nq) (And.intro (HR.out.drewN nq) (And.intro (HX.out.drewN nq) (pw_below_drewN HB.out nq))))
      clear HH HR HX HB y0 y1 y2 y3 y4 y5 y6 y7
      generalize wr.drewN nq = wr at G ⊢
      have HH := Aside0.mk G.out.1
      have HR := Aside0.mk G.out.2.1
      have HX := Aside0.mk G.out.2.2.1
      have HB := Aside0.mk G.out.2.2.2
      clear G
      go_wp2
      go_loopw [11, 12, 13, 14, 15, 16, 17, 18, 19] (fun v0 v1 v2 v3 v4 v5 v6 v7 i wr => ∃ (k : Nat) (x0 x1 x2 x3 x4 x5 x6 x7 : Int), k ≤ 64 ∧ v0 = .int .u32 x0 ∧ v1 = .int .u32 x1 ∧ v2 = .int .u32 x2 ∧ v3 = .int .u32 x3 ∧ v4 = .int .u32 x4 ∧ v5 = .int .u32 x5 ∧ v6 = .int .u32 x6 ∧ v7 = .int .u32 x7 ∧ i = .int .i64 k ∧ Aside0 (st [h0, h1, h2, h3, h4, h5, h6, h7] ss ws k = [x0, x1, x2, x3, x4, x5, x6, x7]) ∧ Aside0 (IsArr wr gh 91 .u32 [h0, h1, h2, h3, h4, h5, h6, h7]) ∧ Aside0 (IsArr wr gr 91 .u32 [0, 0, 0, 0, 0, 0, 0, 0]) ∧ Aside0 (IsArr wr gw 22 .u32 ws) ∧ Aside0 (Below w.heap.size w wr)) (fun _ _ _ _ _ _ _ _ i _ => 64 - (intOf i).toNat)
      case atStart => exact ⟨0, h0, h1, h2, h3, h4, h5, h6, h7, by omega, rfl, rfl, rfl, rfl, rfl, rfl, rfl, rfl, rfl, ⟨rfl⟩, HH, HR, HX, HB⟩
      case round =>
        clear HH HR HX HB
        obtain ⟨k, a, b, c, d, e, f, g, i, hk, rfl, rfl, rfl, rfl, rfl, rfl, rfl, rfl, rfl, HST, HH, HR, HX, HB⟩ := hrel
        by_cases hlt : k < 64
        · obtain ⟨wk, hwk⟩ : ∃ wk, ws.getD k 0 = wk := ⟨_, rfl⟩
          obtain ⟨sk, hsk⟩ : ∃ sk, ss.getD k 0 = sk := ⟨_, rfl⟩
          have HUS := Aside0.mk (show AU [a, b, c, d, e, f, g, i] by rw [← HST.out]; exact st_U HU.out.1 _ _ _)
          have UA := Aside0.mk (show U a from HUS.out a (by simp))
          have UE := Aside0.mk (show U e from HUS.out e (by simp))
          have hsc : wr.cell? ⟨gs, k, none⟩ = some (.int .u32 sk) := by rw [← hsk]; exact (HB.out.cell (p := ⟨gs, k, none⟩) hg0).trans (HG.out k hlt)
          have hwc : wr.cell? ⟨gw, k, none⟩ = some (.int .u32 wk) := by rw [← hwk]; exact HX.out.cell k (by rw [HWL.out]; omega)
          have HN := Aside0.mk (show st [h0, h1, h2, h3, h4, h5, h6, h7] ss ws (k + 1) = step [a, b, c, d, e, f, g, i] sk wk by rw [← hsk, ← hwk, ← HST.out]; rfl)
          have q0 : decide ((k : Int) < 64) = true := decide_eq_true (by omega)
          have q1 : (0 : Int) ≤ k := by omega
          have q2 : (k : Int) < 64 := by omega
          have ue0 := UE.out.1
          have ue1 := UE.out.2
          clear hwk hsk
          go_wp2
          go_quiet ((first | (go_at_call 68; with_reducible exact turn_6 UE.out _ _) | (go_at_call 68; with_reducible exact turn_11 UE.out _ _) | (go_at_call 68; with_reducible exact turn_25 UE.out _ _)))
          have F2 := Aside0.mk (And.intro (HH.out.drewN nq) (And.intro (HR.out.drewN nq) (And.intro (HX.out.drewN nq) (pw_below_drewN HB.out nq))))
          clear hsc hwc HH HR HX HB
          generalize wr.drewN nq = wr at F2 ⊢
          go_wp2_with (first
            | (go_at_call 68; with_reducible refine (turnw_2 UA.out _).mono ?_; rintro e w' ⟨rfl, m, rfl⟩)
            | (go_at_call 68; with_reducible refine (turnw_13 UA.out _).mono ?_; rintro e w' ⟨rfl, m, rfl⟩)
            | (go_at_call 68; with_reducible refine (turnw_22 UA.out _).mono ?_; rintro e w' ⟨rfl, m, rfl⟩))
          have xm : 4294967295 - e = Go.bits .xor .u32 IntKind.u32.max e := (xor_max UE.out).symm
          go_roundw
          case rel =>
            refine ⟨k + 1, (t1 e f g i sk wk + t2 a b c) % 4294967296, a, b, c, (d + t1 e f g i sk wk) % 4294967296, e, f, g, by omega, ?_, rfl, rfl, rfl, ?_, rfl, rfl, rfl, by go_num, ⟨by rw [HN.out]; rfl⟩, ⟨F2.out.1⟩, ⟨F2.out.2.1⟩, ⟨F2.out.2.2.1⟩, ⟨by repeat (first | exact F2.out.2.2.2 | apply pw_below_drewN)⟩⟩
            · refine congrArg (Value.int .u32) ?_
              unfold t1 t2
              rw [← xm]
              omega
            · refine congrArg (Value.int .u32) ?_
              unfold t1
              rw [← xm]
              omega
          case measure => simp [intOf]; omega
        · have ek : k = 64 := by omega
          subst ek
          have y0 : wr.cell? ⟨gh, 0, none⟩ = some (.int .u32 h0) := HH.out.cell 0 (by simp)
          have y1 : wr.cell? ⟨gh, 1, none⟩ = some (.int .u32 h1) := HH.out.cell 1 (by simp)
          have y2 : wr.cell? ⟨gh, 2, none⟩ = some (.int .u32 h2) := HH.out.cell 2 (by simp)
          have y3 : wr.cell? ⟨gh, 3, none⟩ = some (.int .u32 h3) := HH.out.cell 3 (by simp)
          have y4 : wr.cell? ⟨gh, 4, none⟩ = some (.int .u32 h4) := HH.out.cell 4 (by simp)
          have y5 : wr.cell? ⟨gh, 5, none⟩ = some (.int .u32 h5) := HH.out.cell 5 (by simp)
          have y6 : wr.cell? ⟨gh, 6, none⟩ = some (.int .u32 h6) := HH.out.cell 6 (by simp)
          have y7 : wr.cell? ⟨gh, 7, none⟩ = some (.int .u32 h7) := HH.out.cell 7 (by simp)
          have LE := Aside0.mk (show addUp [h0, h1, h2, h3, h4, h5, h6, h7] (st [h0, h1, h2, h3, h4, h5, h6, h7] ss ws 64) 8 = [(h0 + a) % 4294967296, (h1 + b) % 4294967296, (h2 + c) % 4294967296, (h3 + d) % 4294967296, (h4 + e) % 4294967296, (h5 + f) % 4294967296, (h6 + g) % 4294967296, (h7 + i) % 4294967296] by rw [HST.out]; rfl)
          go_wp2_with ((with_reducible refine gate_store (t := 91) (p := 6) (v := .tmp 216) rfl ?_); refine arr_store rfl rfl 91 (.tmp 6) (.tmp 216) rfl gr .u32 [0, 0, 0, 0, 0, 0, 0, 0] [(h0 + a) % 4294967296, (h1 + b) % 4294967296, (h2 + c) % 4294967296, (h3 + d) % 4294967296, (h4 + e) % 4294967296, (h5 + f) % 4294967296, (h6 + g) % 4294967296, (h7 + i) % 4294967296] rfl rfl 91 HR.out (by kernel_rfl) rfl ?_; intro w9 hx hs; have G1 := Aside0.mk (hs.below HB.out LR.out); have G2 := Aside0.mk hx; clear hx hs)
          exact bodyPost_ret (results_arr (k := .u32) rfl _ _ gr 8 22 [(h0 + a) % 4294967296, (h1 + b) % 4294967296, (h2 + c) % 4294967296, (h3 + d) % 4294967296, (h4 + e) % 4294967296, (h5 + f) % 4294967296, (h6 + g) % 4294967296, (h7 + i) % 4294967296] 91 rfl G2.out Tryd.underlying91 (by kernel_rfl)) rfl ⟨by rw [HWS.out, LE.out], G1.out⟩
end Go.Proofs.YtgbhjkkfleeodaaDoor.Sha
