/- The document's block of a key and a nonce. -/
import Derived.Test.YtfomeaejhljahaaChaR
namespace Go.Proofs.Ytfomeaejhljahaa.Cha
open Go.RowKit Go.Proofs.YtfomeaejhljahaaW.PrintWords Go.Proofs.YtfomeaejhljahaaW.PrintLast Go.Proofs.YtfomeaejhljahaaW.PrintMore Go.Proofs.Ytfomeaejhljahaa.XA Go.Proofs.Ytfomeaejhljahaa.XU Go.Proofs.Ytfomeaejhljahaa.XB Go.Proofs.Ytfomeaejhljahaa.XM
set_option linter.unusedVariables false
set_option linter.unusedSimpArgs false
theorem colL_U {xs : List Int} (h : AU xs) (k : Nat) : AU (colL xs k) := by
  induction k with
  | zero => exact h
  | succ k ih => exact q4_U ih _ _ _ _
theorem dgL_U {xs : List Int} (h : AU xs) (k : Nat) : AU (dgL xs k) := by
  induction k with
  | zero => exact h
  | succ k ih => exact q4_U ih _ _ _ _
theorem rn_U {xs : List Int} (h : AU xs) (k : Nat) : AU (rn xs k) := by
  induction k with
  | zero => exact h
  | succ k ih => exact dgL_U (colL_U ih 4) 4
theorem k0L_U : AU k0L := by
  intro x hx
  have h := List.all_eq_true.1 (show (k0L.all fun x => decide (0 ≤ x) && decide (x < 4294967296)) = true by kernel_rfl) x hx
  rw [Bool.and_eq_true, decide_eq_true_eq, decide_eq_true_eq] at h
  exact h
theorem firstL_U (key nonce : ByteArray) {n : Int} (hn : U n) : AU (firstL key nonce n) := lay_U ((lay_U k0L_U 4 key 8).set 12 hn) 13 nonce 3
theorem str_nil : (⟨#[]⟩ : ByteArray) = strOfNums [] := by apply eq_of_data; rw [strOfNums_data]; rfl
theorem rq0 (ys : List Int) (hl : ys.length = 16) (hu : AU ys) (W : World) : Calls Try.prog 17 #[.agg (arrK .u32 ys), .int .i64 0, .int .i64 4, .int .i64 8, .int .i64 12] W fun e w' => e = .returned (.agg (arrK .u32 (q4 ys 0 4 8 12))) ∧ Below W.heap.size W w' := refquarter_calls 0 4 8 12 (by decide) (by decide) (by decide) (by decide) ys hl hu W
theorem rq1 (ys : List Int) (hl : ys.length = 16) (hu : AU ys) (W : World) : Calls Try.prog 17 #[.agg (arrK .u32 ys), .int .i64 1, .int .i64 5, .int .i64 9, .int .i64 13] W fun e w' => e = .returned (.agg (arrK .u32 (q4 ys 1 5 9 13))) ∧ Below W.heap.size W w' := refquarter_calls 1 5 9 13 (by decide) (by decide) (by decide) (by decide) ys hl hu W
theorem rq2 (ys : List Int) (hl : ys.length = 16) (hu : AU ys) (W : World) : Calls Try.prog 17 #[.agg (arrK .u32 ys), .int .i64 2, .int .i64 6, .int .i64 10, .int .i64 14] W fun e w' => e = .returned (.agg (arrK .u32 (q4 ys 2 6 10 14))) ∧ Below W.heap.size W w' := refquarter_calls 2 6 10 14 (by decide) (by decide) (by decide) (by decide) ys hl hu W
theorem rq3 (ys : List Int) (hl : ys.length = 16) (hu : AU ys) (W : World) : Calls Try.prog 17 #[.agg (arrK .u32 ys), .int .i64 3, .int .i64 7, .int .i64 11, .int .i64 15] W fun e w' => e = .returned (.agg (arrK .u32 (q4 ys 3 7 11 15))) ∧ Below W.heap.size W w' := refquarter_calls 3 7 11 15 (by decide) (by decide) (by decide) (by decide) ys hl hu W
theorem rq4 (ys : List Int) (hl : ys.length = 16) (hu : AU ys) (W : World) : Calls Try.prog 17 #[.agg (arrK .u32 ys), .int .i64 0, .int .i64 5, .int .i64 10, .int .i64 15] W fun e w' => e = .returned (.agg (arrK .u32 (q4 ys 0 5 10 15))) ∧ Below W.heap.size W w' := refquarter_calls 0 5 10 15 (by decide) (by decide) (by decide) (by decide) ys hl hu W
theorem rq5 (ys : List Int) (hl : ys.length = 16) (hu : AU ys) (W : World) : Calls Try.prog 17 #[.agg (arrK .u32 ys), .int .i64 1, .int .i64 6, .int .i64 11, .int .i64 12] W fun e w' => e = .returned (.agg (arrK .u32 (q4 ys 1 6 11 12))) ∧ Below W.heap.size W w' := refquarter_calls 1 6 11 12 (by decide) (by decide) (by decide) (by decide) ys hl hu W
theorem rq6 (ys : List Int) (hl : ys.length = 16) (hu : AU ys) (W : World) : Calls Try.prog 17 #[.agg (arrK .u32 ys), .int .i64 2, .int .i64 7, .int .i64 8, .int .i64 13] W fun e w' => e = .returned (.agg (arrK .u32 (q4 ys 2 7 8 13))) ∧ Below W.heap.size W w' := refquarter_calls 2 7 8 13 (by decide) (by decide) (by decide) (by decide) ys hl hu W
theorem rq7 (ys : List Int) (hl : ys.length = 16) (hu : AU ys) (W : World) : Calls Try.prog 17 #[.agg (arrK .u32 ys), .int .i64 3, .int .i64 4, .int .i64 9, .int .i64 14] W fun e w' => e = .returned (.agg (arrK .u32 (q4 ys 3 4 9 14))) ∧ Below W.heap.size W w' := refquarter_calls 3 4 9 14 (by decide) (by decide) (by decide) (by decide) ys hl hu W
theorem rn_nest (xs : List Int) : dgL (colL xs 4) 4 = (q4 (q4 (q4 (q4 (q4 (q4 (q4 (q4 xs 0 4 8 12) 1 5 9 13) 2 6 10 14) 3 7 11 15) 0 5 10 15) 1 6 11 12) 2 7 8 13) 3 4 9 14) := rfl
set_option maxHeartbeats 8000000 in
set_option maxRecDepth 100000 in
theorem refblock_calls (key nonce : ByteArray) (n : Int) (hk : key.size = 32) (hn : nonce.size = 12) (hnu : U n) (w : World) :
    Calls Try.prog 10 #[.string key, .string nonce, .int .u32 n] w fun e w' => e = .returned (.string (blk key nonce n)) ∧ Below w.heap.size w w' := by
  have HB := Aside0.mk (Below.refl w.heap.size w)
  have HKN := Aside0.mk (And.intro hk (And.intro hn hnu))
  clear hk hn hnu
  go_enter Try.func10, Try.ntmps10
  go_wp2_with (first
    | ((with_reducible refine gate_dst (N := 7) rfl ?_); refine arr_new ?hg (N := 7) ?hd z16 .u32 30 ?hr ?_; (case hd => rfl); (case hg => rfl); (case hr => first | (go_simp; done) | (go_simp; rfl)); intro gf eg w2 hx hb; have HX := Aside0.mk hx; have n0 := Aside0.mk (below_step HB.out hb); have LX := Aside0.mk (show w.heap.size ≤ gf by rw [eg]; exact HB.out.size); clear HB hx hb eg; have HB := n0; clear n0)
    | ((with_reducible refine gate_store (t := 30) (p := 7) (v := .tmp 15) rfl ?_); refine arr_store rfl rfl 30 (.tmp 7) (.tmp 15) rfl gf .u32 z16 k0L rfl rfl 30 HX.out (by kernel_rfl) rfl ?_; intro w4 hx hs; have n0 := Aside0.mk (hs.below HB.out LX.out); clear HB HX; have HX := Aside0.mk hx; have HB := n0; clear n0 hx hs))
  go_loopw [8] (fun i wr => ∃ k : Nat, k ≤ 8 ∧ i = .int .i64 k ∧ IsArr wr gf 30 .u32 (lay k0L 4 key k) ∧ Below w.heap.size w wr) (fun i _ => 8 - (intOf i).toNat)
  case atStart => exact ⟨0, by omega, rfl, HX.out, HB.out⟩
  case round =>
    clear HX HB
    obtain ⟨k, hkk, rfl, hX, hB⟩ := hrel
    have HB := Aside0.mk hB; have HX := Aside0.mk hX
    clear hB hX
    by_cases hlt : k < 8
    · have q0 : decide ((k : Int) < 8) = true := decide_eq_true (by omega)
      have q1 : (0 : Int) ≤ k := by omega
      obtain ⟨xs, hxs⟩ : ∃ xs, lay k0L 4 key k = xs := ⟨_, rfl⟩
      have hxl : xs.length = 16 := by rw [← hxs, lay_length]; rfl
      rw [hxs] at HX
      have HN := Aside0.mk (show lay k0L 4 key (k + 1) = xs.set (4 + k) (rw4 key (4 * (k : Int))) by rw [← hxs]; rfl)
      clear hxs
      obtain ⟨vo, hvo⟩ : ∃ v, wr.cell? ⟨gf, 4 + k, none⟩ = some (.int .u32 v) := ⟨_, HX.out.cell (4 + k) (by omega)⟩
      have hfo := HX.out.frozen (4 + k)
      have r1 : IntKind.i64.wrap (4 + (k : Int)) = 4 + (k : Int) := by rw [IntKind.wrap_i64]; omega
      have r2 : (0 : Int) ≤ 4 + (k : Int) := by omega
      have r3 : 4 + (k : Int) < 16 := by omega
      have r4 : (4 + (k : Int)).toNat = 4 + k := by omega
      have CW := Aside0.mk (fun W : World => refword_calls key (4 * (k : Int)) (by omega) (by have := HKN.out.1; omega) (by have := HKN.out.1; omega) W)
      clear hxl
      go_wp2_with (first
        | (go_at_call 16; with_reducible refine (CW.out _).mono ?_; rintro e w' ⟨rfl, m, rfl⟩))
      go_roundw
      case rel => exact ⟨k + 1, by omega, by go_num, by rw [HN.out]; exact (HX.out.drewN m).set (4 + k) _, below_set (pw_below_drewN HB.out m) LX.out⟩
      case measure => simp [intOf]; omega
    · have ek : k = 8 := by omega
      subst ek
      rw [show ((8 : Nat) : Int) = 8 from rfl]
      obtain ⟨y0, hy0⟩ : ∃ y, lay k0L 4 key 8 = y := ⟨_, rfl⟩
      rw [hy0] at HX
      have HL0 := Aside0.mk (show y0.length = 16 by rw [← hy0, lay_length]; rfl)
      obtain ⟨vo, hvo⟩ : ∃ v, wr.cell? ⟨gf, 12, none⟩ = some (.int .u32 v) := ⟨_, HX.out.cell 12 (by rw [HL0.out]; omega)⟩
      have hfo := HX.out.frozen 12
      have H0 := Aside0.mk hy0
      clear hy0
      go_wp2
      have n1 := (HX.out.set 12 n)
      have n3 := (below_set (g := gf) (j := 12) (v := .int .u32 n) HB.out LX.out)
      generalize wr.setCell ⟨gf, 12, none⟩ (.int .u32 n) = w5 at n1 n3 ⊢
      obtain ⟨y1, hy1⟩ : ∃ y, y0.set 12 n = y := ⟨_, rfl⟩
      rw [hy1] at n1
      have HL1 := Aside0.mk (show y1.length = 16 by rw [← hy1, List.length_set]; exact HL0.out)
      have H1 := Aside0.mk hy1
      clear hy1 HX HB hvo hfo
      have HX := Aside0.mk n1
      have HB := Aside0.mk n3
      clear n1 n3
      go_loopw [9] (fun i wr => ∃ k : Nat, k ≤ 3 ∧ i = .int .i64 k ∧ IsArr wr gf 30 .u32 (lay y1 13 nonce k) ∧ Below w.heap.size w wr) (fun i _ => 3 - (intOf i).toNat)
      case atStart => exact ⟨0, by omega, rfl, HX.out, HB.out⟩
      case round =>
        clear HX HB
        obtain ⟨k, hkk, rfl, hX, hB⟩ := hrel
        have HB := Aside0.mk hB; have HX := Aside0.mk hX
        clear hB hX
        by_cases hlt : k < 3
        · have q0 : decide ((k : Int) < 3) = true := decide_eq_true (by omega)
          have q1 : (0 : Int) ≤ k := by omega
          obtain ⟨xs, hxs⟩ : ∃ xs, lay y1 13 nonce k = xs := ⟨_, rfl⟩
          have hxl : xs.length = 16 := by rw [← hxs, lay_length]; exact HL1.out
          rw [hxs] at HX
          have HN := Aside0.mk (show lay y1 13 nonce (k + 1) = xs.set (13 + k) (rw4 nonce (4 * (k : Int))) by rw [← hxs]; rfl)
          clear hxs
          obtain ⟨vo, hvo⟩ : ∃ v, wr.cell? ⟨gf, 13 + k, none⟩ = some (.int .u32 v) := ⟨_, HX.out.cell (13 + k) (by omega)⟩
          have hfo := HX.out.frozen (13 + k)
          have r1 : IntKind.i64.wrap (13 + (k : Int)) = 13 + (k : Int) := by rw [IntKind.wrap_i64]; omega
          have r2 : (0 : Int) ≤ 13 + (k : Int) := by omega
          have r3 : 13 + (k : Int) < 16 := by omega
          have r4 : (13 + (k : Int)).toNat = 13 + k := by omega
          have CW := Aside0.mk (fun W : World => refword_calls nonce (4 * (k : Int)) (by omega) (by have := HKN.out.2.1; omega) (by have := HKN.out.2.1; omega) W)
          clear hxl
          go_wp2_with (first
            | (go_at_call 16; with_reducible refine (CW.out _).mono ?_; rintro e w' ⟨rfl, m, rfl⟩))
          go_roundw
          case rel => exact ⟨k + 1, by omega, by go_num, by rw [HN.out]; exact (HX.out.drewN m).set (13 + k) _, below_set (pw_below_drewN HB.out m) LX.out⟩
          case measure => simp [intOf]; omega
        · have ek : k = 3 := by omega
          subst ek
          rw [show ((3 : Nat) : Int) = 3 from rfl]
          obtain ⟨fs, hfs⟩ : ∃ y, lay y1 13 nonce 3 = y := ⟨_, rfl⟩
          rw [hfs] at HX
          have HE := Aside0.mk (show firstL key nonce n = fs by rw [firstL, H0.out, H1.out, hfs])
          have HFL := Aside0.mk (show fs.length = 16 by rw [← HE.out]; exact firstL_length key nonce n)
          have HFU := Aside0.mk (show AU fs by rw [← HE.out]; exact firstL_U key nonce HKN.out.2.2)
          clear hfs
          go_wp2_with (first
            | ((with_reducible refine gate_dst (N := 40) rfl ?_); refine arr_load rfl 30 (.tmp 7) rfl gf 16 22 .u32 fs rfl 30 HX.out Try.underlying30 (by rw [HFL.out]; kernel_rfl) ?_)
            | ((with_reducible refine gate_dst (N := 10) rfl ?_); refine arr_new ?hg (N := 10) ?hd z16 .u32 30 ?hr ?_; (case hd => rfl); (case hg => rfl); (case hr => first | (go_simp; done) | (go_simp; rfl)); intro gx eg w5 hx hb; have HF := Aside0.mk (HX.out.below hb); have n0 := Aside0.mk (below_step HB.out hb); have LF := Aside0.mk (show w.heap.size ≤ gx by rw [eg]; exact HB.out.size); have NFX := Aside0.mk (show gf ≠ gx by rw [eg]; exact Nat.ne_of_lt HX.out.lt); clear HB HX; have HX := Aside0.mk hx; have HB := n0; clear n0 hx hb eg)
            | ((with_reducible refine gate_store (t := 30) (p := 10) (v := .tmp 40) rfl ?_); refine arr_store rfl rfl 30 (.tmp 10) (.tmp 40) rfl gx .u32 z16 fs rfl rfl 30 HX.out (by rw [HFL.out]; kernel_rfl) (by rw [HFL.out]; rfl) ?_; intro w6 hx hs; have n0 := Aside0.mk (hs.below HB.out LF.out); have n1 := Aside0.mk (hs.arr HF.out NFX.out); clear HB HX HF; have HX := Aside0.mk hx; have HB := n0; have HF := n1; clear n0 n1 hx hs))
          go_loopw [11] (fun i wr => ∃ j : Nat, j ≤ 10 ∧ i = .int .i64 j ∧ IsArr wr gf 30 .u32 fs ∧ IsArr wr gx 30 .u32 (rn fs j) ∧ Below w.heap.size w wr) (fun i _ => 10 - (intOf i).toNat)
          case atStart => exact ⟨0, by omega, rfl, HF.out, HX.out, HB.out⟩
          case round =>
            clear HF HX HB
            obtain ⟨j, hj, rfl, hF, hX, hB⟩ := hrel
            have HF := Aside0.mk hF; have HB := Aside0.mk hB; have HX := Aside0.mk hX
            clear hF hB hX
            by_cases hlt : j < 10
            · have q0 : decide ((j : Int) < 10) = true := decide_eq_true (by omega)
              obtain ⟨xs, hxs⟩ : ∃ xs, rn fs j = xs := ⟨_, rfl⟩
              have HL := Aside0.mk (show xs.length = 16 by rw [← hxs, rn_length]; exact HFL.out)
              have HU := Aside0.mk (show AU xs by rw [← hxs]; exact rn_U HFU.out j)
              have HN := Aside0.mk (show rn fs (j + 1) = dgL (colL xs 4) 4 by rw [← hxs]; rfl)
              rw [hxs] at HX
              clear hxs
              go_wp2_with (first
                | ((with_reducible refine gate_dst (N := 45) rfl ?_); refine arr_load rfl 30 (.tmp 10) rfl gx 16 22 .u32 xs rfl 30 HX.out Try.underlying30 (by rw [HL.out]; kernel_rfl) ?_)
                | (go_at_call 17; with_reducible refine (rq0 xs HL.out HU.out _).mono ?_; rintro e w7 ⟨rfl, hb⟩; obtain ⟨y1, hz⟩ : ∃ z, q4 xs 0 4 8 12 = z := ⟨_, rfl⟩; rw [hz]; have m1 := Aside0.mk (show y1.length = 16 by rw [← hz, q4_length]; exact HL.out); have m2 := Aside0.mk (show AU y1 by rw [← hz]; exact q4_U HU.out _ _ _ _); have m3 := Aside0.mk (HX.out.below hb); have m4 := Aside0.mk (HF.out.below hb); have m5 := Aside0.mk (below_step HB.out hb); have E0 := Aside0.mk hz; have HLo := HL; clear HL HU HX HF HB hz hb; have HL := m1; have HU := m2; have HX := m3; have HF := m4; have HB := m5; clear m1 m2 m3 m4 m5)
                | ((with_reducible refine gate_store (t := 30) (p := 10) (v := .tmp 46) rfl ?_); refine arr_store rfl rfl 30 (.tmp 10) (.tmp 46) rfl gx .u32 xs y1 rfl rfl 30 HX.out (by rw [HL.out]; kernel_rfl) (by rw [HL.out, HLo.out]) ?_; intro w8 hx hs; have n0 := Aside0.mk (hs.below HB.out LF.out); have n1 := Aside0.mk (hs.arr HF.out NFX.out); clear HB HX HF HLo; have HX := Aside0.mk hx; have HB := n0; have HF := n1; clear n0 n1 hx hs)
                | ((with_reducible refine gate_dst (N := 47) rfl ?_); refine arr_load rfl 30 (.tmp 10) rfl gx 16 22 .u32 y1 rfl 30 HX.out Try.underlying30 (by rw [HL.out]; kernel_rfl) ?_)
                | (go_at_call 17; with_reducible refine (rq1 y1 HL.out HU.out _).mono ?_; rintro e w7 ⟨rfl, hb⟩; obtain ⟨y2, hz⟩ : ∃ z, q4 y1 1 5 9 13 = z := ⟨_, rfl⟩; rw [hz]; have m1 := Aside0.mk (show y2.length = 16 by rw [← hz, q4_length]; exact HL.out); have m2 := Aside0.mk (show AU y2 by rw [← hz]; exact q4_U HU.out _ _ _ _); have m3 := Aside0.mk (HX.out.below hb); have m4 := Aside0.mk (HF.out.below hb); have m5 := Aside0.mk (below_step HB.out hb); have E1 := Aside0.mk hz; have HLo := HL; clear HL HU HX HF HB hz hb; have HL := m1; have HU := m2; have HX := m3; have HF := m4; have HB := m5; clear m1 m2 m3 m4 m5)
                | ((with_reducible refine gate_store (t := 30) (p := 10) (v := .tmp 48) rfl ?_); refine arr_store rfl rfl 30 (.tmp 10) (.tmp 48) rfl gx .u32 y1 y2 rfl rfl 30 HX.out (by rw [HL.out]; kernel_rfl) (by rw [HL.out, HLo.out]) ?_; intro w8 hx hs; have n0 := Aside0.mk (hs.below HB.out LF.out); have n1 := Aside0.mk (hs.arr HF.out NFX.out); clear HB HX HF HLo; have HX := Aside0.mk hx; have HB := n0; have HF := n1; clear n0 n1 hx hs)
                | ((with_reducible refine gate_dst (N := 49) rfl ?_); refine arr_load rfl 30 (.tmp 10) rfl gx 16 22 .u32 y2 rfl 30 HX.out Try.underlying30 (by rw [HL.out]; kernel_rfl) ?_)
                | (go_at_call 17; with_reducible refine (rq2 y2 HL.out HU.out _).mono ?_; rintro e w7 ⟨rfl, hb⟩; obtain ⟨y3, hz⟩ : ∃ z, q4 y2 2 6 10 14 = z := ⟨_, rfl⟩; rw [hz]; have m1 := Aside0.mk (show y3.length = 16 by rw [← hz, q4_length]; exact HL.out); have m2 := Aside0.mk (show AU y3 by rw [← hz]; exact q4_U HU.out _ _ _ _); have m3 := Aside0.mk (HX.out.below hb); have m4 := Aside0.mk (HF.out.below hb); have m5 := Aside0.mk (below_step HB.out hb); have E2 := Aside0.mk hz; have HLo := HL; clear HL HU HX HF HB hz hb; have HL := m1; have HU := m2; have HX := m3; have HF := m4; have HB := m5; clear m1 m2 m3 m4 m5)
                | ((with_reducible refine gate_store (t := 30) (p := 10) (v := .tmp 50) rfl ?_); refine arr_store rfl rfl 30 (.tmp 10) (.tmp 50) rfl gx .u32 y2 y3 rfl rfl 30 HX.out (by rw [HL.out]; kernel_rfl) (by rw [HL.out, HLo.out]) ?_; intro w8 hx hs; have n0 := Aside0.mk (hs.below HB.out LF.out); have n1 := Aside0.mk (hs.arr HF.out NFX.out); clear HB HX HF HLo; have HX := Aside0.mk hx; have HB := n0; have HF := n1; clear n0 n1 hx hs)
                | ((with_reducible refine gate_dst (N := 51) rfl ?_); refine arr_load rfl 30 (.tmp 10) rfl gx 16 22 .u32 y3 rfl 30 HX.out Try.underlying30 (by rw [HL.out]; kernel_rfl) ?_)
                | (go_at_call 17; with_reducible refine (rq3 y3 HL.out HU.out _).mono ?_; rintro e w7 ⟨rfl, hb⟩; obtain ⟨y4, hz⟩ : ∃ z, q4 y3 3 7 11 15 = z := ⟨_, rfl⟩; rw [hz]; have m1 := Aside0.mk (show y4.length = 16 by rw [← hz, q4_length]; exact HL.out); have m2 := Aside0.mk (show AU y4 by rw [← hz]; exact q4_U HU.out _ _ _ _); have m3 := Aside0.mk (HX.out.below hb); have m4 := Aside0.mk (HF.out.below hb); have m5 := Aside0.mk (below_step HB.out hb); have E3 := Aside0.mk hz; have HLo := HL; clear HL HU HX HF HB hz hb; have HL := m1; have HU := m2; have HX := m3; have HF := m4; have HB := m5; clear m1 m2 m3 m4 m5)
                | ((with_reducible refine gate_store (t := 30) (p := 10) (v := .tmp 52) rfl ?_); refine arr_store rfl rfl 30 (.tmp 10) (.tmp 52) rfl gx .u32 y3 y4 rfl rfl 30 HX.out (by rw [HL.out]; kernel_rfl) (by rw [HL.out, HLo.out]) ?_; intro w8 hx hs; have n0 := Aside0.mk (hs.below HB.out LF.out); have n1 := Aside0.mk (hs.arr HF.out NFX.out); clear HB HX HF HLo; have HX := Aside0.mk hx; have HB := n0; have HF := n1; clear n0 n1 hx hs)
                | ((with_reducible refine gate_dst (N := 53) rfl ?_); refine arr_load rfl 30 (.tmp 10) rfl gx 16 22 .u32 y4 rfl 30 HX.out Try.underlying30 (by rw [HL.out]; kernel_rfl) ?_)
                | (go_at_call 17; with_reducible refine (rq4 y4 HL.out HU.out _).mono ?_; rintro e w7 ⟨rfl, hb⟩; obtain ⟨y5, hz⟩ : ∃ z, q4 y4 0 5 10 15 = z := ⟨_, rfl⟩; rw [hz]; have m1 := Aside0.mk (show y5.length = 16 by rw [← hz, q4_length]; exact HL.out); have m2 := Aside0.mk (show AU y5 by rw [← hz]; exact q4_U HU.out _ _ _ _); have m3 := Aside0.mk (HX.out.below hb); have m4 := Aside0.mk (HF.out.below hb); have m5 := Aside0.mk (below_step HB.out hb); have E4 := Aside0.mk hz; have HLo := HL; clear HL HU HX HF HB hz hb; have HL := m1; have HU := m2; have HX := m3; have HF := m4; have HB := m5; clear m1 m2 m3 m4 m5)
                | ((with_reducible refine gate_store (t := 30) (p := 10) (v := .tmp 54) rfl ?_); refine arr_store rfl rfl 30 (.tmp 10) (.tmp 54) rfl gx .u32 y4 y5 rfl rfl 30 HX.out (by rw [HL.out]; kernel_rfl) (by rw [HL.out, HLo.out]) ?_; intro w8 hx hs; have n0 := Aside0.mk (hs.below HB.out LF.out); have n1 := Aside0.mk (hs.arr HF.out NFX.out); clear HB HX HF HLo; have HX := Aside0.mk hx; have HB := n0; have HF := n1; clear n0 n1 hx hs)
                | ((with_reducible refine gate_dst (N := 55) rfl ?_); refine arr_load rfl 30 (.tmp 10) rfl gx 16 22 .u32 y5 rfl 30 HX.out Try.underlying30 (by rw [HL.out]; kernel_rfl) ?_)
                | (go_at_call 17; with_reducible refine (rq5 y5 HL.out HU.out _).mono ?_; rintro e w7 ⟨rfl, hb⟩; obtain ⟨y6, hz⟩ : ∃ z, q4 y5 1 6 11 12 = z := ⟨_, rfl⟩; rw [hz]; have m1 := Aside0.mk (show y6.length = 16 by rw [← hz, q4_length]; exact HL.out); have m2 := Aside0.mk (show AU y6 by rw [← hz]; exact q4_U HU.out _ _ _ _); have m3 := Aside0.mk (HX.out.below hb); have m4 := Aside0.mk (HF.out.below hb); have m5 := Aside0.mk (below_step HB.out hb); have E5 := Aside0.mk hz; have HLo := HL; clear HL HU HX HF HB hz hb; have HL := m1; have HU := m2; have HX := m3; have HF := m4; have HB := m5; clear m1 m2 m3 m4 m5)
                | ((with_reducible refine gate_store (t := 30) (p := 10) (v := .tmp 56) rfl ?_); refine arr_store rfl rfl 30 (.tmp 10) (.tmp 56) rfl gx .u32 y5 y6 rfl rfl 30 HX.out (by rw [HL.out]; kernel_rfl) (by rw [HL.out, HLo.out]) ?_; intro w8 hx hs; have n0 := Aside0.mk (hs.below HB.out LF.out); have n1 := Aside0.mk (hs.arr HF.out NFX.out); clear HB HX HF HLo; have HX := Aside0.mk hx; have HB := n0; have HF := n1; clear n0 n1 hx hs)
                | ((with_reducible refine gate_dst (N := 57) rfl ?_); refine arr_load rfl 30 (.tmp 10) rfl gx 16 22 .u32 y6 rfl 30 HX.out Try.underlying30 (by rw [HL.out]; kernel_rfl) ?_)
                | (go_at_call 17; with_reducible refine (rq6 y6 HL.out HU.out _).mono ?_; rintro e w7 ⟨rfl, hb⟩; obtain ⟨y7, hz⟩ : ∃ z, q4 y6 2 7 8 13 = z := ⟨_, rfl⟩; rw [hz]; have m1 := Aside0.mk (show y7.length = 16 by rw [← hz, q4_length]; exact HL.out); have m2 := Aside0.mk (show AU y7 by rw [← hz]; exact q4_U HU.out _ _ _ _); have m3 := Aside0.mk (HX.out.below hb); have m4 := Aside0.mk (HF.out.below hb); have m5 := Aside0.mk (below_step HB.out hb); have E6 := Aside0.mk hz; have HLo := HL; clear HL HU HX HF HB hz hb; have HL := m1; have HU := m2; have HX := m3; have HF := m4; have HB := m5; clear m1 m2 m3 m4 m5)
                | ((with_reducible refine gate_store (t := 30) (p := 10) (v := .tmp 58) rfl ?_); refine arr_store rfl rfl 30 (.tmp 10) (.tmp 58) rfl gx .u32 y6 y7 rfl rfl 30 HX.out (by rw [HL.out]; kernel_rfl) (by rw [HL.out, HLo.out]) ?_; intro w8 hx hs; have n0 := Aside0.mk (hs.below HB.out LF.out); have n1 := Aside0.mk (hs.arr HF.out NFX.out); clear HB HX HF HLo; have HX := Aside0.mk hx; have HB := n0; have HF := n1; clear n0 n1 hx hs)
                | ((with_reducible refine gate_dst (N := 59) rfl ?_); refine arr_load rfl 30 (.tmp 10) rfl gx 16 22 .u32 y7 rfl 30 HX.out Try.underlying30 (by rw [HL.out]; kernel_rfl) ?_)
                | (go_at_call 17; with_reducible refine (rq7 y7 HL.out HU.out _).mono ?_; rintro e w7 ⟨rfl, hb⟩; obtain ⟨y8, hz⟩ : ∃ z, q4 y7 3 4 9 14 = z := ⟨_, rfl⟩; rw [hz]; have m1 := Aside0.mk (show y8.length = 16 by rw [← hz, q4_length]; exact HL.out); have m2 := Aside0.mk (show AU y8 by rw [← hz]; exact q4_U HU.out _ _ _ _); have m3 := Aside0.mk (HX.out.below hb); have m4 := Aside0.mk (HF.out.below hb); have m5 := Aside0.mk (below_step HB.out hb); have E7 := Aside0.mk hz; have HLo := HL; clear HL HU HX HF HB hz hb; have HL := m1; have HU := m2; have HX := m3; have HF := m4; have HB := m5; clear m1 m2 m3 m4 m5)
                | ((with_reducible refine gate_store (t := 30) (p := 10) (v := .tmp 60) rfl ?_); refine arr_store rfl rfl 30 (.tmp 10) (.tmp 60) rfl gx .u32 y7 y8 rfl rfl 30 HX.out (by rw [HL.out]; kernel_rfl) (by rw [HL.out, HLo.out]) ?_; intro w8 hx hs; have n0 := Aside0.mk (hs.below HB.out LF.out); have n1 := Aside0.mk (hs.arr HF.out NFX.out); clear HB HX HF HLo; have HX := Aside0.mk hx; have HB := n0; have HF := n1; clear n0 n1 hx hs))
              have HQ : rn fs (j + 1) = y8 := by rw [HN.out, rn_nest, E0.out, E1.out, E2.out, E3.out, E4.out, E5.out, E6.out, E7.out]
              go_roundw
              case rel => exact ⟨j + 1, by omega, by go_num, HF.out, by rw [HQ]; exact HX.out, HB.out⟩
              case measure => simp [intOf]; omega
            · have ej : j = 10 := by omega
              subst ej
              rw [show ((10 : Nat) : Int) = 10 from rfl]
              obtain ⟨xs, hxs⟩ : ∃ xs, rn fs 10 = xs := ⟨_, rfl⟩
              have HL := Aside0.mk (show xs.length = 16 by rw [← hxs, rn_length]; exact HFL.out)
              have HU := Aside0.mk (show AU xs by rw [← hxs]; exact rn_U HFU.out 10)
              have HEB := Aside0.mk (show blk key nonce n = strOfNums (outB xs fs 16) by rw [blk, blkL, HE.out, hxs])
              rw [hxs] at HX
              clear hxs hj hlt
              go_wp2
              go_loopw [12, 13] (fun v i wr => ∃ k : Nat, k ≤ 16 ∧ i = .int .i64 k ∧ v = .string (strOfNums (outB xs fs k)) ∧ IsArr wr gx 30 .u32 xs ∧ IsArr wr gf 30 .u32 fs ∧ Below w.heap.size w wr) (fun _ i _ => 16 - (intOf i).toNat)
              case atStart => exact ⟨0, by omega, rfl, by rw [str_nil]; rfl, HX.out, HF.out, HB.out⟩
              case round =>
                clear HX HF HB
                obtain ⟨k, hk, rfl, rfl, hX, hF, hB⟩ := hrel
                have HB := Aside0.mk hB; have HX := Aside0.mk hX; have HF := Aside0.mk hF
                clear hB hX hF
                obtain ⟨oo, ho⟩ : ∃ o, strOfNums (outB xs fs k) = o := ⟨_, rfl⟩
                simp only [ho]
                by_cases h8 : k < 16
                · obtain ⟨x, hx⟩ : ∃ x, xs.getD k 0 = x := ⟨_, rfl⟩
                  obtain ⟨f, hf⟩ : ∃ f, fs.getD k 0 = f := ⟨_, rfl⟩
                  have hcx : wr.cell? ⟨gx, k, none⟩ = some (.int .u32 x) := by rw [← hx]; exact HX.out.cell k (by rw [HL.out]; omega)
                  have hcf : wr.cell? ⟨gf, k, none⟩ = some (.int .u32 f) := by rw [← hf]; exact HF.out.cell k (by rw [HFL.out]; omega)
                  obtain ⟨s, hs⟩ : ∃ s, (x + f) % 4294967296 = s := ⟨_, rfl⟩
                  have ux0 : 0 ≤ s := by omega
                  have ux1 : s < 4294967296 := by omega
                  have HX2 := Aside0.mk (show outB xs fs (k + 1) = outB xs fs k ++ [s % 256, s / 256 % 256, s / 65536 % 256, s / 16777216 % 256] by rw [outB, hx, hf, hs])
                  have hosz : oo.size = 4 * k := by rw [← ho, strOfNums_size, outB_length]
                  obtain ⟨ys, hys⟩ : ∃ ys : List Int, ys = [s % 256, s / 256 % 256, s / 65536 % 256, s / 16777216] := ⟨_, rfl⟩
                  have hsz : (strOfNums ys).size = 4 := by rw [strOfNums_size, hys]; rfl
                  have b1 : (oo.size + (strOfNums ys).size ≤ 9223372036854775807) = True := eq_true (by omega)
                  have b2 : (9223372036854775807 < oo.size + (strOfNums ys).size) = False := eq_false (by omega)
                  have NY := Aside0.mk hys
                  have HO := Aside0.mk ho
                  clear hx hf ho hys hsz hosz
                  have q1 : decide ((k : Int) < 16) = true := decide_eq_true (by omega)
                  have q2 : (0 : Int) ≤ k := by omega
                  have q3 : (k : Int) < 16 := by omega
                  have hta : Int.tdiv s 16777216 = s / 16777216 := td ux0
                  have htb : Int.tdiv s 65536 = s / 65536 := td ux0
                  have htc : Int.tdiv s 256 = s / 256 := td ux0
                  have htd : Int.tmod s 256 = s % 256 := tm ux0
                  have hte : Int.tmod (s / 65536) 256 = s / 65536 % 256 := tm (by omega)
                  have htf : Int.tmod (s / 256) 256 = s / 256 % 256 := tm (by omega)
                  have hwa : IntKind.u32.wrap (s / 16777216) = s / 16777216 := by rw [IntKind.wrap_u32]; omega
                  have hwb : IntKind.u32.wrap (s / 65536) = s / 65536 := by rw [IntKind.wrap_u32]; omega
                  have hwc : IntKind.u32.wrap (s / 256) = s / 256 := by rw [IntKind.wrap_u32]; omega
                  have HSS := Aside0.mk (And.intro ux0 ux1)
                  clear ux0 ux1
                  go_wp2
                  go_quiet (fail)
                  all_goals have F2 := Aside0.mk (And.intro (HX.out.drewN nq) (And.intro (HF.out.drewN nq) (pw_below_drewN HB.out nq)))
                  clear hcx hcf HX HF HB
                  generalize wr.drewN nq = wr at F2 ⊢
                  have HX := Aside0.mk F2.out.1
                  have HF := Aside0.mk F2.out.2.1
                  have HB := Aside0.mk F2.out.2.2
                  clear F2
                  go_wp2_with ((with_reducible refine gate_dst (N := 87) rfl ?_); refine Kd.R_lit (Kd.int .u8) _ 5 ?hg (N := 87) ?hd (xs := ([s % 256, s / 256 % 256, s / 65536 % 256, s / 16777216] : List Int)) (inner := [.int .u8 (s % 256), .int .u8 (s / 256 % 256), .int .u8 (s / 65536 % 256), .int .u8 (s / 16777216)]) (ok := fun _ => True) (okp := fun _ => True) ?hr ?hp (fun _ hk => hk) trivial (Below.refl _ _) (Nat.le_refl _) (by simp) ?_; (case hd => rfl); (case hg => rfl); (case hr => first | (go_simp; done) | (go_simp; rfl)); (case hp => exact (Reps.one (show Kd.M (Kd.int .u8) _ _ _ (s % 256) [.int .u8 (s % 256)] from rfl) (Reps.one (show Kd.M (Kd.int .u8) _ _ _ (s / 256 % 256) [.int .u8 (s / 256 % 256)] from rfl) (Reps.one (show Kd.M (Kd.int .u8) _ _ _ (s / 65536 % 256) [.int .u8 (s / 65536 % 256)] from rfl) (Reps.one (show Kd.M (Kd.int .u8) _ _ _ (s / 16777216) [.int .u8 (s / 16777216)] from rfl) (Reps.none _ _)))))); intro v102 w7 ho8 hb hg_ hnew_; clear hg_ hnew_; rw [← NY.out] at ho8; have n0_ := Aside0.mk (Kd.R_lower ho8 HB.out.size); have n1_ := Aside0.mk (below_step HB.out hb); have n2_ := Aside0.mk (HX.out.below hb); have n3_ := Aside0.mk (HF.out.below hb); clear HB HX HF; have HO103 := n0_; have HB := n1_; have HX := n2_; have HF := n3_; clear n0_ n1_ n2_ n3_; clear hb ho8; have hcv9 := own_string (P := Try.prog) Try.underlying34 Try.underlying5 Try.underlying9 (Kd.own_of_R HO103.out))
                  go_roundw
                  case measure => simp [intOf]; omega
                  case rel =>
                    refine ⟨k + 1, by omega, by go_num, ?_, HX.out, HF.out, HB.out⟩
                    have hs1 := HSS.out
                    rw [HX2.out, strOfNums_append, HO.out, NY.out, show s / 16777216 % 256 = s / 16777216 by omega]
                · have ek : k = 16 := by omega
                  subst ek
                  have hoR : blk key nonce n = oo := by rw [HEB.out]; exact ho
                  clear ho
                  go_wp2
                  go_ret
                  exact ⟨by rw [hoR]; rfl, HB.out⟩
end Go.Proofs.Ytfomeaejhljahaa.Cha
