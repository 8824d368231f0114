/- The code's block of a key and a nonce of right lengths. -/
import Derived.Test.YtfomeaejhljahaaChaC
namespace Go.Proofs.Ytfomeaejhljahaa.Cha
open Go.RowKit Go.Proofs.YtfomeaejhljahaaW.PrintWords Go.Proofs.YtfomeaejhljahaaW.PrintLast Go.Proofs.YtfomeaejhljahaaW.PrintMore Go.Proofs.Ytfomeaejhljahaa.XA Go.Proofs.Ytfomeaejhljahaa.XU Go.Proofs.Ytfomeaejhljahaa.XB Go.Proofs.Ytfomeaejhljahaa.XM
set_option linter.unusedVariables false
set_option linter.unusedSimpArgs false
set_option maxHeartbeats 8000000 in
set_option maxRecDepth 100000 in
theorem block_calls (key nonce : ByteArray) (n : Int) (hk : key.size = 32) (hn : nonce.size = 12) (w : World) :
    Calls Try.prog 7 #[.string key, .string nonce, .int .u32 n] w fun e w' => e = .returned (.string (blk key nonce n)) ∧ Below w.heap.size w w' := by
  have HB := Aside0.mk (Below.refl w.heap.size w)
  obtain ⟨fs, hfs⟩ : ∃ fs, firstL key nonce n = fs := ⟨_, rfl⟩
  have HFL := Aside0.mk (show fs.length = 16 by rw [← hfs]; exact firstL_length key nonce n)
  have HFS := Aside0.mk hfs
  have HKN := Aside0.mk (And.intro hk hn)
  clear hfs hk hn
  go_enter Try.func7, Try.ntmps7
  go_wp2_with (first
    | (go_at_call 13; with_reducible refine (may_true key nonce HKN.out.1 HKN.out.2 _).mono ?_; rintro e w' ⟨rfl, hw⟩; obtain rfl := hw.symm)
    | (go_at_call 14; refine (begin_calls key nonce n HKN.out.1 HKN.out.2 _).mono ?_; rintro e w1 ⟨rfl, hb⟩; rw [HFS.out]; have n0 := Aside0.mk (below_step HB.out hb); clear HB hb; have HB := n0; clear n0)
    | ((with_reducible refine gate_dst (N := 7) rfl ?_); refine arr_new ?hg (N := 7) ?hd z16 .u32 31 ?hr ?_; (case hd => rfl); (case hg => rfl); (case hr => first | (go_simp; done) | (go_simp; rfl)); intro gf eg w2 hx hb; have HF := Aside0.mk hx; have n0 := Aside0.mk (below_step HB.out hb); have LF := Aside0.mk (show w.heap.size ≤ gf by rw [eg]; exact HB.out.size); clear HB hx hb eg; have HB := n0; clear n0)
    | ((with_reducible refine gate_store (t := 31) (p := 7) (v := .tmp 21) rfl ?_); refine arr_store rfl rfl 31 (.tmp 7) (.tmp 21) rfl gf .u32 z16 fs rfl rfl 31 HF.out (by rw [HFL.out]; kernel_rfl) (by rw [HFL.out]; rfl) ?_; intro w4 hx hs; have n0 := Aside0.mk (hs.below HB.out LF.out); clear HB HF; have HF := Aside0.mk hx; have HB := n0; clear n0 hx hs)
    | ((with_reducible refine gate_dst (N := 22) rfl ?_); refine arr_load rfl 31 (.tmp 7) rfl gf 16 22 .u32 fs rfl 31 HF.out Try.underlying31 (by rw [HFL.out]; kernel_rfl) ?_)
    | ((with_reducible refine gate_dst (N := 8) rfl ?_); refine arr_new ?hg (N := 8) ?hd z16 .u32 31 ?hr ?_; (case hd => rfl); (case hg => rfl); (case hr => first | (go_simp; done) | (go_simp; rfl)); intro gx eg w5 hx hb; have n1 := Aside0.mk (HF.out.below hb); have HX := Aside0.mk hx; have n0 := Aside0.mk (below_step HB.out hb); have LX := Aside0.mk (show w.heap.size ≤ gx by rw [eg]; exact HB.out.size); have NFX := Aside0.mk (show gf ≠ gx by rw [eg]; exact Nat.ne_of_lt HF.out.lt); clear HB HF hx hb eg; have HB := n0; have HF := n1; clear n0 n1)
    | ((with_reducible refine gate_store (t := 31) (p := 8) (v := .tmp 22) rfl ?_); refine arr_store rfl rfl 31 (.tmp 8) (.tmp 22) rfl gx .u32 z16 fs rfl rfl 31 HX.out (by rw [HFL.out]; kernel_rfl) (by rw [HFL.out]; rfl) ?_; intro w6 hx hs; have n0 := Aside0.mk (hs.below HB.out LX.out); have n1 := Aside0.mk (hs.arr HF.out NFX.out); clear HB HX HF; have HX := Aside0.mk hx; have HB := n0; have HF := n1; clear n0 n1 hx hs))
  go_loopw [23] (fun i wr => ∃ j : Nat, j ≤ 10 ∧ i = .int .i64 j ∧ IsArr wr gf 31 .u32 fs ∧ IsArr wr gx 31 .u32 (rn fs j) ∧ Below w.heap.size w wr) (fun i _ => 10 - (intOf i).toNat)
  case atStart => exact ⟨0, by omega, rfl, HF.out, HX.out, HB.out⟩
  case round =>
    clear HF HX HB
    obtain ⟨j, hj, rfl, hF, hX, hB⟩ := hrel
    have HF := Aside0.mk hF; have HB := Aside0.mk hB; have HX := Aside0.mk hX
    clear hF hB hX
    by_cases hlt : j < 10
    · have q0 : decide ((j : Int) < 10) = true := decide_eq_true (by omega)
      obtain ⟨xs, hxs⟩ : ∃ xs, rn fs j = xs := ⟨_, rfl⟩
      have HXL := Aside0.mk (show xs.length = 16 by rw [← hxs, rn_length]; exact HFL.out)
      have HN := Aside0.mk (show rn fs (j + 1) = dgL (colL xs 4) 4 by rw [← hxs]; rfl)
      rw [hxs] at HX
      clear hxs
      go_wp2
      go_loopw [25] (fun i wr => ∃ k : Nat, k ≤ 4 ∧ i = .int .i64 k ∧ IsArr wr gf 31 .u32 fs ∧ IsArr wr gx 31 .u32 (colL xs k) ∧ Below w.heap.size w wr) (fun i _ => 4 - (intOf i).toNat)
      case atStart => exact ⟨0, by omega, rfl, HF.out, HX.out, HB.out⟩
      case round =>
        clear HF HX HB
        obtain ⟨k, hk, rfl, hF, hX, hB⟩ := hrel
        have HF := Aside0.mk hF; have HB := Aside0.mk hB; have HX := Aside0.mk hX
        clear hF hB hX
        by_cases hk4 : k < 4
        · have p0 : decide ((k : Int) < 4) = true := decide_eq_true (by omega)
          have p1 : (0 : Int) ≤ k := by omega
          have CQ := Aside0.mk (fun (W : World) (hW : IsArr W gx 31 .u32 (colL xs k)) => quarter_calls gx k (4 + k) (8 + k) (12 + k) (by omega) (by omega) (by omega) (by omega) (colL xs k) (by rw [colL_length]; exact HXL.out) W hW)
          rw [show ((4 + k : Nat) : Int) = 4 + (k : Int) by omega, show ((8 + k : Nat) : Int) = 8 + (k : Int) by omega, show ((12 + k : Nat) : Int) = 12 + (k : Int) by omega] at CQ
          go_wp2_with (go_at_call 15; with_reducible refine (CQ.out _ HX.out).mono ?_; rintro e w7 ⟨rfl, hx, hs⟩; have n0 := Aside0.mk (hs.below HB.out LX.out); have n1 := Aside0.mk (hs.arr HF.out NFX.out); clear HB HX HF; have HX := Aside0.mk hx; have HB := n0; have HF := n1; clear n0 n1 hx hs)
          go_roundw
          case rel => exact ⟨k + 1, by omega, by go_num, HF.out, HX.out, HB.out⟩
          case measure => simp [intOf]; omega
        · have ek : k = 4 := by omega
          subst ek
          rw [show ((4 : Nat) : Int) = 4 from rfl]
          obtain ⟨ys, hys⟩ : ∃ ys, colL xs 4 = ys := ⟨_, rfl⟩
          have HYL := Aside0.mk (show ys.length = 16 by rw [← hys, colL_length]; exact HXL.out)
          rw [hys] at HX HN
          clear hys
          go_wp2
          go_loopw [37] (fun i wr => ∃ k : Nat, k ≤ 4 ∧ i = .int .i64 k ∧ IsArr wr gf 31 .u32 fs ∧ IsArr wr gx 31 .u32 (dgL ys k) ∧ Below w.heap.size w wr) (fun i _ => 4 - (intOf i).toNat)
          case atStart => exact ⟨0, by omega, rfl, HF.out, HX.out, HB.out⟩
          case round =>
            clear HF HX HB
            obtain ⟨k, hk, rfl, hF, hX, hB⟩ := hrel
            have HF := Aside0.mk hF; have HB := Aside0.mk hB; have HX := Aside0.mk hX
            clear hF hB hX
            by_cases hk4 : k < 4
            · have p0 : decide ((k : Int) < 4) = true := decide_eq_true (by omega)
              have p1 : (0 : Int) ≤ k := by omega
              have m1 : Int.tmod ((k : Int) + 1) 4 = ((k : Int) + 1) % 4 := tm (by omega)
              have m2 : Int.tmod ((k : Int) + 2) 4 = ((k : Int) + 2) % 4 := tm (by omega)
              have m3 : Int.tmod ((k : Int) + 3) 4 = ((k : Int) + 3) % 4 := tm (by omega)
              have CQ := Aside0.mk (fun (W : World) (hW : IsArr W gx 31 .u32 (dgL ys k)) => quarter_calls gx k (4 + (k + 1) % 4) (8 + (k + 2) % 4) (12 + (k + 3) % 4) (by omega) (by omega) (by omega) (by omega) (dgL ys k) (by rw [dgL_length]; exact HYL.out) W hW)
              rw [show ((4 + (k + 1) % 4 : Nat) : Int) = 4 + ((k : Int) + 1) % 4 by omega, show ((8 + (k + 2) % 4 : Nat) : Int) = 8 + ((k : Int) + 2) % 4 by omega, show ((12 + (k + 3) % 4 : Nat) : Int) = 12 + ((k : Int) + 3) % 4 by omega] at CQ
              go_wp2_with (go_at_call 15; with_reducible refine (CQ.out _ HX.out).mono ?_; rintro e w7 ⟨rfl, hx, hs⟩; have n0 := Aside0.mk (hs.below HB.out LX.out); have n1 := Aside0.mk (hs.arr HF.out NFX.out); clear HB HX HF; have HX := Aside0.mk hx; have HB := n0; have HF := n1; clear n0 n1 hx hs)
              go_roundw
              case rel => exact ⟨k + 1, by omega, by go_num, HF.out, HX.out, HB.out⟩
              case measure => simp [intOf]; omega
            · have ek : k = 4 := by omega
              subst ek
              rw [← HN.out] at HX
              rw [show ((4 : Nat) : Int) = 4 from rfl]
              go_wp2
              go_roundw
              case rel => exact ⟨j + 1, by omega, by go_num, HF.out, HX.out, HB.out⟩
              case measure => simp [intOf]; omega
    · have ej : j = 10 := by omega
      subst ej
      rw [show ((10 : Nat) : Int) = 10 from rfl]
      obtain ⟨xs, hxs⟩ : ∃ xs, rn fs 10 = xs := ⟨_, rfl⟩
      have HXL := Aside0.mk (show xs.length = 16 by rw [← hxs, rn_length]; exact HFL.out)
      have HE := Aside0.mk (show blk key nonce n = strOfNums (outB xs fs 16) by rw [blk, blkL, HFS.out, hxs])
      rw [hxs] at HX
      clear hxs hj hlt
      obtain ⟨i0, hi, hzz⟩ := Option.map_eq_some_iff.1 info5
      simp only [Prod.mk.injEq] at hzz
      obtain ⟨hz0, hz1, hz2⟩ := hzz
      have HI := Aside0.mk (And.intro hi (And.intro hz0 (And.intro hz1 hz2)))
      clear hi hz0 hz1 hz2
      go_wp2_with ((with_reducible refine gate_dst (N := 56) rfl ?_); refine arr_load rfl 31 (.tmp 8) rfl gx 16 22 .u32 xs rfl 31 HX.out Try.underlying31 (by rw [HXL.out]; kernel_rfl) ?_)
      rename World => w9
      have B2 := Aside0.mk (Below.refl w9.heap.size w9)
      go_loopw [11, 57] (fun v i wx => ∃ k : Nat, k ≤ 16 ∧ i = .int .i64 k ∧ wx.ownsRow w9.heap.size 5 1 v (4 * k) (nums .u8 (outB xs fs k)) ∧ Below w9.heap.size w9 wx) (fun _ i _ => 16 - (intOf i).toNat)
      case atStart => exact ⟨0, by omega, rfl, World.ownsRow_nil _ _ _ _, B2.out⟩
      case round =>
        clear B2 HX
        obtain ⟨k, hk, rfl, ho, hB⟩ := hrel
        have B2 := Aside0.mk hB; have HO := Aside0.mk ho
        have HF2 := Aside0.mk (HF.out.below hB)
        clear hB ho
        by_cases h16 : k < 16
        · obtain ⟨x, hx⟩ : ∃ x, xs.getD k 0 = x := ⟨_, rfl⟩
          obtain ⟨f, hf⟩ : ∃ f, fs.getD k 0 = f := ⟨_, rfl⟩
          have hix := fun W => run_index_arr (P := Try.prog) 31 22 16 .u32 xs k Try.underlying31 (by kernel_rfl) Try.underlying22 h16 HXL.out W
          rw [hx] at hix
          have hcf : wr.cell? ⟨gf, k, none⟩ = some (.int .u32 f) := by rw [← hf]; exact HF2.out.cell k (by rw [HFL.out]; exact h16)
          have HX2 := Aside0.mk (show outB xs fs (k + 1) = outB xs fs k ++ [(x + f) % 4294967296 % 256, (x + f) % 4294967296 / 256 % 256, (x + f) % 4294967296 / 65536 % 256, (x + f) % 4294967296 / 16777216 % 256] by rw [outB, hx, hf])
          clear hx hf
          have q1 : decide ((k : Int) < 16) = true := decide_eq_true (by omega)
          have q2 : (0 : Int) ≤ k := by omega
          have q3 : (k : Int) < 16 := by omega
          go_wp2_with ((with_reducible refine gate_builtin (b := .append) (xs := #[.tmp 66, .tmp 78]) rfl ?_); at_builtin; refine wpList_append_own _ rfl _ _ 34 rfl w9.heap.size 5 i0 (.int .u8 0) 1 1 Try.underlying34 HI.out.1 HI.out.2.1 HI.out.2.2.1 HI.out.2.2.2 rfl (by decide) _ _ _ rfl (HO.out.alloc _) ⟨wr.heap.size, 0, none⟩ 4 4 [.int .u8 ((x + f) % 256), .int .u8 ((x + f) % 4294967296 / 256 % 256), .int .u8 ((x + f) % 4294967296 / 65536 % 256), .int .u8 ((x + f) % 4294967296 / 16777216)] rfl rfl ?c1 ?c2 ?c3 ?c4 ?c5 ?_)
          case c1 => exact four_cells wr 5 _ _ _ _
          case c2 =>
            intro u hu
            simp only [List.mem_cons, List.not_mem_nil, or_false] at hu
            rcases hu with rfl | rfl | rfl | rfl <;> rfl
          case c3 => unfold maxLen; omega
          case c4 => omega
          case c5 => have := B2.out.size; simp; omega
          intro v' w1 hown' hgrow _
          have G1 := Aside0.mk ((below_alloc B2.out _).grown hgrow (by have := B2.out.size; simp; omega) (fun b hb => (HO.out.lt b hb).1))
          have G2 := Aside0.mk hown'
          clear hown' hgrow
          go_wp2
          go_roundw
          case rel =>
            refine ⟨k + 1, by omega, by go_num, ?_, G1.out⟩
            have g := G2.out
            rw [HX2.out, show (x + f) % 4294967296 % 256 = (x + f) % 256 by omega, show (x + f) % 4294967296 / 16777216 % 256 = (x + f) % 4294967296 / 16777216 by omega]
            simpa [nums, Nat.mul_add] using g
          case measure => simp [intOf]; omega
        · have ek : k = 16 := by omega
          subst ek
          have hv := own_string (P := Try.prog) Try.underlying34 Try.underlying5 Try.underlying9 HO.out
          rw [← HE.out] at hv
          go_wp2
          go_ret
          exact ⟨rfl, below_step HB.out B2.out⟩
end Go.Proofs.Ytfomeaejhljahaa.Cha
