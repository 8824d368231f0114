import Derived.Test.YtgbhjkkfleeodaaDoorShaA
namespace Go.Proofs.YtgbhjkkfleeodaaDoor.Sha
open Go.RowKit Go.Proofs.YtgbhjkkfleeodaaDoorW.PrintWords Go.Proofs.YtgbhjkkfleeodaaDoorW.PrintLast Go.Proofs.YtgbhjkkfleeodaaDoorW.PrintMore Go.Proofs.YtgbhjkkfleeodaaDoor.XA
set_option linter.unusedVariables false
set_option linter.unusedSimpArgs false
set_option maxHeartbeats 8000000 in
set_option maxRecDepth 100000 in
theorem with_calls (h : List Int) (hh : h.length = 8) (str : ByteArray) (ws ss : List Int) (hws : ws.length = 64) (hss : ss.length = 64) (w : World) (hg : ∀ i, i < 64 → w.cell? ⟨3, i, none⟩ = some (.int .u32 (ss.getD i 0))) (hg0 : 3 < w.heap.size)
    (hsp : ∀ W : World, Calls Tryd.prog 97 #[.string str] W fun e w' => e = .returned (.agg (arrK .u32 ws)) ∧ Below W.heap.size W w') :
    Calls Tryd.prog 95 #[.agg (arrK .u32 h), .string str] w fun e w' => e = .returned (.agg (arrK .u32 (addUp h (st h ss ws 64) 8))) ∧ Below w.heap.size w w' := by
  have HB := Aside0.mk (Below.refl w.heap.size w)
  have HG := Aside0.mk hg
  have HS := Aside0.mk hsp
  clear hg hsp
  go_enter Tryd.func95, Tryd.ntmps95
  go_wp2_with (first
    | ((with_reducible refine gate_dst (N := 2) rfl ?_); refine arr_new ?hg (N := 2) ?hd h .u32 137 ?hr ?_; (case hd => rfl); (case hg => rfl); (case hr => first | (go_simp; done) | (go_simp; rfl)); intro gh eg w1 hx hb; have HH := Aside0.mk hx; have n0 := Aside0.mk (below_step HB.out hb); have LH := Aside0.mk (show w.heap.size ≤ gh by rw [eg]; exact HB.out.size); clear HB hx hb eg; have HB := n0; clear n0)
    | ((with_reducible refine gate_dst (N := 4) rfl ?_); refine arr_new ?hg (N := 4) ?hd [0, 0, 0, 0, 0, 0, 0, 0] .u32 137 ?hr ?_; (case hd => rfl); (case hg => rfl); (case hr => first | (go_simp; done) | (go_simp; rfl)); intro gr eg w2 hx hb; have n1 := Aside0.mk (HH.out.below hb); have HR := Aside0.mk hx; have n0 := Aside0.mk (below_step HB.out hb); have LR := Aside0.mk (show w.heap.size ≤ gr by rw [eg]; exact HB.out.size); have NHR := Aside0.mk (show gh ≠ gr by rw [eg]; exact Nat.ne_of_lt HH.out.lt); clear HB HH hx hb eg; have HB := n0; have HH := n1; clear n0 n1)
    | ((with_reducible refine gate_dst (N := 13) rfl ?_); refine arr_load rfl 137 (.tmp 2) rfl gh 8 22 .u32 h rfl 137 HH.out Tryd.underlying137 (by rw [hh]; kernel_rfl) ?_)
    | ((with_reducible refine gate_dst (N := 5) rfl ?_); refine arr_new ?hg (N := 5) ?hd [0, 0, 0, 0, 0, 0, 0, 0] .u32 137 ?hr ?_; (case hd => rfl); (case hg => rfl); (case hr => first | (go_simp; done) | (go_simp; rfl)); intro gx eg w3 hx hb; have n1 := Aside0.mk (HH.out.below hb); have n2 := Aside0.mk (HR.out.below hb); have HX := Aside0.mk hx; have n0 := Aside0.mk (below_step HB.out hb); have LX := Aside0.mk (show w.heap.size ≤ gx by rw [eg]; exact HB.out.size); have NHX := Aside0.mk (show gh ≠ gx by rw [eg]; exact Nat.ne_of_lt HH.out.lt); have NRX := Aside0.mk (show gr ≠ gx by rw [eg]; exact Nat.ne_of_lt HR.out.lt); clear HB HH HR hx hb eg; have HB := n0; have HH := n1; have HR := n2; clear n0 n1 n2)
    | ((with_reducible refine gate_store (t := 137) (p := 5) (v := .tmp 13) rfl ?_); refine arr_store rfl rfl 137 (.tmp 5) (.tmp 13) rfl gx .u32 [0, 0, 0, 0, 0, 0, 0, 0] h rfl rfl 137 HX.out (by rw [hh]; kernel_rfl) (by rw [hh]; rfl) ?_; intro w4 hx hs; have n0 := Aside0.mk (hs.below HB.out LX.out); have n1 := Aside0.mk (hs.arr HH.out NHX.out); have n2 := Aside0.mk (hs.arr HR.out NRX.out); clear HB HH HR HX; have HX := Aside0.mk hx; have HB := n0; have HH := n1; have HR := n2; clear n0 n1 n2 hx hs)
    | (go_at_call 97; refine (HS.out _).mono ?_; rintro e w5 ⟨rfl, hb⟩; have n0 := Aside0.mk (below_step HB.out hb); have n1 := Aside0.mk (HH.out.below hb); have n2 := Aside0.mk (HR.out.below hb); have n3 := Aside0.mk (HX.out.below hb); clear HB HH HR HX hb; have HB := n0; have HH := n1; have HR := n2; have HX := n3; clear n0 n1 n2 n3))
  go_loopw [16] (fun i wr => ∃ k : Nat, k ≤ 64 ∧ i = .int .i64 k ∧ IsArr wr gh 137 .u32 h ∧ IsArr wr gr 137 .u32 [0, 0, 0, 0, 0, 0, 0, 0] ∧ IsArr wr gx 137 .u32 (st h ss ws k) ∧ Below w.heap.size w wr) (fun i _ => 64 - (intOf i).toNat)
  case atStart => exact ⟨0, by omega, rfl, HH.out, HR.out, HX.out, HB.out⟩
  case round =>
    clear HH HR HX HB
    obtain ⟨k, hk, rfl, hH, hR, hX, hB⟩ := hrel
    have HH := Aside0.mk hH; have HR := Aside0.mk hR; have HB := Aside0.mk hB; have HX := Aside0.mk hX
    clear hH hR hB hX
    by_cases hlt : k < 64
    · obtain ⟨wk, hwk⟩ : ∃ wk, ws.getD k 0 = wk := ⟨_, rfl⟩
      obtain ⟨sk, hsk⟩ : ∃ sk, ss.getD k 0 = sk := ⟨_, rfl⟩
      have hix := fun W => run_index_arr (P := Tryd.prog) 140 22 64 .u32 ws k Tryd.underlying140 (by kernel_rfl) Tryd.underlying22 hlt hws W
      have hsc : wr.cell? ⟨3, k, none⟩ = some (.int .u32 sk) := (HB.out.cell (p := ⟨3, k, none⟩) hg0).trans ((HG.out k hlt).trans (by rw [hsk]))
      obtain ⟨a, b, c, d, e, f, g, i, hl⟩ := eight _ (st_length h ss ws hh k)
      have HST := Aside0.mk (show st h ss ws (k + 1) = step [a, b, c, d, e, f, g, i] sk wk by rw [← hl, ← hsk, ← hwk]; rfl)
      have hX := HX.out
      rw [hl] at hX
      have F := Aside0.mk (Round.mk HH.out HR.out hX HB.out hsc)
      rw [hwk] at hix
      have HW := Aside0.mk hwk
      have HK := Aside0.mk hsk
      have HL := Aside0.mk hl
      clear hwk hsk hl HX hX HH HR HB hsc
      have q0 : decide ((k : Int) < 64) = true := decide_eq_true (by omega)
      have q1 : (0 : Int) ≤ k := by omega
      obtain ⟨x0, x1, x2, x3, x4, x5, x6, x7⟩ := F.out.cells
      have hsc := F.out.hs
      go_wp2
      go_quiet (fail)
      have F2 := Aside0.mk (F.out.drewN nq)
      clear x0 x1 x2 x3 x4 x5 x6 x7 hsc F
      generalize wr.drewN nq = wr at F2 ⊢
      obtain ⟨x0, x1, x2, x3, x4, x5, x6, x7⟩ := F2.out.cells
      have hsc := F2.out.hs
      go_wp2
      go_quiet ((first | (go_at_call 98; with_reducible exact right_6 _ _ _) | (go_at_call 98; with_reducible exact right_11 _ _ _) | (go_at_call 98; with_reducible exact right_25 _ _ _)))
      have F3 := Aside0.mk (F2.out.drewN nq)
      clear x0 x1 x2 x3 x4 x5 x6 x7 hsc F2
      generalize wr.drewN nq = wr at F3 ⊢
      obtain ⟨x0, x1, x2, x3, x4, x5, x6, x7⟩ := F3.out.cells
      have hsc := F3.out.hs
      go_wp2
      go_quiet ((first | (go_at_call 98; with_reducible exact right_2 _ _ _) | (go_at_call 98; with_reducible exact right_13 _ _ _) | (go_at_call 98; with_reducible exact right_22 _ _ _)))
      have F4 := Aside0.mk (F3.out.drewN nq)
      clear x0 x1 x2 x3 x4 x5 x6 x7 hsc F3
      generalize wr.drewN nq = wr at F4 ⊢
      obtain ⟨x0, x1, x2, x3, x4, x5, x6, x7⟩ := F4.out.cells
      go_wp2_with ((with_reducible refine gate_store (t := 137) (p := 5) (v := .tmp 93) rfl ?_); go_loud (refine arr_store rfl rfl 137 (.tmp 5) (.tmp 93) rfl gx .u32 [a, b, c, d, e, f, g, i] (step [a, b, c, d, e, f, g, i] sk wk) rfl rfl 137 F4.out.hx (by kernel_rfl) rfl ?_; intro w8 hx hs; have G1 := Aside0.mk (hs.below F4.out.hb LX.out); have G2 := Aside0.mk (hs.arr F4.out.hh NHX.out); have G3 := Aside0.mk (hs.arr F4.out.hr NRX.out); have G4 := Aside0.mk hx; clear hx hs x0 x1 x2 x3 x4 x5 x6 x7 F4))
      go_roundw
      case rel => exact ⟨k + 1, by omega, by go_num, G2.out, G3.out, by rw [HST.out]; exact G4.out, G1.out⟩
      case measure => simp [intOf]; omega
    · have ek : k = 64 := by omega
      subst ek
      have hl := st_length h ss ws hh 64
      obtain ⟨xs, hxs⟩ : ∃ xs, st h ss ws 64 = xs := ⟨_, rfl⟩
      rw [hxs] at hl
      have HX2 := Aside0.mk (show IsArr wr gx 137 .u32 xs by rw [← hxs]; exact HX.out)
      have HXS := Aside0.mk hxs
      clear HX hxs
      go_wp2
      go_loopw [95] (fun i wr => ∃ k : Nat, k ≤ 8 ∧ i = .int .i64 k ∧ IsArr wr gh 137 .u32 (addUp h xs k) ∧ IsArr wr gr 137 .u32 [0, 0, 0, 0, 0, 0, 0, 0] ∧ IsArr wr gx 137 .u32 xs ∧ Below w.heap.size w wr) (fun i _ => 8 - (intOf i).toNat)
      case atStart => exact ⟨0, by omega, rfl, HH.out, HR.out, HX2.out, HB.out⟩
      case round =>
        clear HH HR HX2 HB
        obtain ⟨k, hk, rfl, hH, hR, hX, hB⟩ := hrel
        have HH := Aside0.mk hH; have HR := Aside0.mk hR; have HB := Aside0.mk hB; have HX := Aside0.mk hX
        clear hH hR hB hX
        by_cases hlt : k < 8
        · obtain ⟨p, hp⟩ : ∃ p, (addUp h xs k).getD k 0 = p := ⟨_, rfl⟩
          obtain ⟨q, hq⟩ : ∃ q, xs.getD k 0 = q := ⟨_, rfl⟩
          have z0 : wr.cell? ⟨gh, k, none⟩ = some (.int .u32 p) := by rw [← hp]; exact HH.out.cell k (by rw [addUp_length]; omega)
          have z1 : wr.cell? ⟨gx, k, none⟩ = some (.int .u32 q) := by rw [← hq]; exact HX.out.cell k (by omega)
          have z2 := HH.out.frozen k
          have HP := Aside0.mk hp
          have HQ := Aside0.mk hq
          clear hp hq
          have q0 : decide ((k : Int) < 8) = true := decide_eq_true (by omega)
          have q1 : (0 : Int) ≤ k := by omega
          go_wp2
          go_region
          all_goals go_wp2
          all_goals go_roundw
          case rel =>
            refine ⟨k + 1, by omega, by go_num, ?_, ?_, ?_, ?_⟩
            · have := HH.out.set k ((p + q) % 4294967296)
              rw [show addUp h xs (k + 1) = (addUp h xs k).set k ((p + q) % 4294967296) by rw [← HP.out, ← HQ.out]; rfl]
              exact this
            · exact HR.out.far (fun e => NHR.out e.symm) _
            · exact HX.out.far (fun e => NHX.out e.symm) _
            · exact below_drew1 (below_set HB.out LH.out)
          case measure => simp [intOf]; omega
        · have ek : k = 8 := by omega
          subst ek
          go_wp2_with (first
            | ((with_reducible refine gate_dst (N := 107) rfl ?_); refine arr_load rfl 137 (.tmp 2) rfl gh 8 22 .u32 (addUp h xs 8) rfl 137 HH.out Tryd.underlying137 (by rw [addUp_length, hh]; kernel_rfl) ?_)
            | ((with_reducible refine gate_store (t := 137) (p := 4) (v := .tmp 107) rfl ?_); refine arr_store rfl rfl 137 (.tmp 4) (.tmp 107) rfl gr .u32 [0, 0, 0, 0, 0, 0, 0, 0] (addUp h xs 8) rfl rfl 137 HR.out (by rw [addUp_length, hh]; kernel_rfl) (by rw [addUp_length, hh]; rfl) ?_; intro w9 hx hs; have G1 := Aside0.mk (hs.below HB.out LR.out); have G2 := Aside0.mk hx; clear hx hs))
          rw [HXS.out]
          exact bodyPost_ret (results_arr (k := .u32) rfl _ _ gr 8 22 (addUp h xs 8) 137 rfl G2.out Tryd.underlying137 (by rw [addUp_length, hh]; kernel_rfl)) rfl ⟨rfl, G1.out⟩
end Go.Proofs.YtgbhjkkfleeodaaDoor.Sha
