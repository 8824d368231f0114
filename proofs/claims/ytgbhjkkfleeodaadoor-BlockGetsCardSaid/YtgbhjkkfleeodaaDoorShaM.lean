import Derived.Test.YtgbhjkkfleeodaaDoorShaA
import Derived.Test.YtgbhjkkfleeodaaDoorShaB
import Derived.Test.YtgbhjkkfleeodaaDoorShaS
import Derived.Test.YtgbhjkkfleeodaaDoorShaF
namespace Go.Proofs.YtgbhjkkfleeodaaDoor.Sha
open Go.RowKit Go.Proofs.YtgbhjkkfleeodaaDoorW.PrintWords Go.Proofs.YtgbhjkkfleeodaaDoorW.PrintLast Go.Proofs.YtgbhjkkfleeodaaDoorW.PrintMore Go.Proofs.YtgbhjkkfleeodaaDoor.XA Go.Proofs.YtgbhjkkfleeodaaDoor.XM
set_option linter.unusedVariables false
set_option linter.unusedSimpArgs false
def h0L : List Int := [1779033703, 3144134277, 1013904242, 2773480762, 1359893119, 2600822924, 528734635, 1541459225]
set_option maxRecDepth 100000 in
theorem fresh_calls (w : World) : Calls Tryd.prog 93 #[] w fun e w' => e = .returned (.agg (arrK .u32 h0L)) ∧ Below w.heap.size w w' := by
  go_enter Tryd.func93, Tryd.ntmps93
  go_wp2_with (first
    | ((with_reducible refine gate_dst (N := 0) rfl ?_); refine arr_new ?hg (N := 0) ?hd [0, 0, 0, 0, 0, 0, 0, 0] .u32 137 ?hr ?_; (case hd => rfl); (case hg => rfl); (case hr => first | (go_simp; done) | (go_simp; rfl)); intro gr eg w1 hx hb; have HR := Aside0.mk hx; have HB := Aside0.mk hb; have LR := Aside0.mk (show w.heap.size ≤ gr by rw [eg]; exact Nat.le_refl _); clear hx hb eg)
    | ((with_reducible refine gate_store (t := 137) (p := 0) (v := .tmp 1) rfl ?_); refine arr_store rfl rfl 137 (.tmp 0) (.tmp 1) rfl gr .u32 [0, 0, 0, 0, 0, 0, 0, 0] h0L rfl rfl 137 HR.out (by kernel_rfl) rfl ?_; intro w9 hx hs; have G1 := Aside0.mk (hs.below HB.out LR.out); have G2 := Aside0.mk hx; clear hx hs))
  exact bodyPost_ret (results_arr (k := .u32) rfl _ _ gr 8 22 h0L 137 rfl G2.out Tryd.underlying137 (by kernel_rfl)) rfl ⟨rfl, G1.out⟩
def sums (ss : List Int) (t : ByteArray) : Nat → List Int
  | 0 => h0L
  | j + 1 => addUp (sums ss t j) (st (sums ss t j) ss (sp (t.extract (64 * j) (64 * j + 64)) 64) 64) 8
theorem sums_length (ss : List Int) (t : ByteArray) (j : Nat) : (sums ss t j).length = 8 := by
  induction j with
  | zero => rfl
  | succ j ih => simp only [sums, addUp_length, ih]
theorem four_cells (W : World) (T : TypeId) (a b c d : Value) : ∀ j u, [a, b, c, d][j]? = some u → (W.alloc (.cells #[a, b, c, d] T)).cell? ((⟨W.heap.size, 0, none⟩ : Addr).add j) = some u := by
  intro j u hu
  rw [add_plain, blk_cell (blk_new W _) j]
  simpa using hu
def outL (xs : List Int) : List Int := xs.flatMap fun n => [n / 16777216 % 256, n / 65536 % 256, n / 256 % 256, n % 256]
set_option maxHeartbeats 8000000 in
set_option maxRecDepth 100000 in
theorem sum_calls (s : ByteArray) (hs : s.size ≤ 140737488351232) (ss : List Int) (hss : ss.length = 64) (w : World) (hg : ∀ i, i < 64 → w.cell? ⟨3, i, none⟩ = some (.int .u32 (ss.getD i 0))) (hg0 : 3 < w.heap.size) :
    Calls Tryd.prog 86 #[.string s] w fun e w' => e = .returned (.string (strOfNums (outL (sums ss (strOfNums (padL s)) ((padL s).length / 64))))) ∧ Below w.heap.size w w' := by
  have HB := Aside0.mk (Below.refl w.heap.size w)
  have HG := Aside0.mk hg
  clear hg
  obtain ⟨t, ht⟩ : ∃ t, strOfNums (padL s) = t := ⟨_, rfl⟩
  have htl : t.size = (padL s).length := by rw [← ht]; show (strOfNums (padL s)).data.size = _; simp [strOfNums]
  have hm : (padL s).length % 64 = 0 := by
    simp [padL, tail8, bytesOf_length, zc]; omega
  have hl : (padL s).length ≤ 140737488351232 + 200 := by
    simp [padL, tail8, bytesOf_length, zc]; omega
  have HT := Aside0.mk ht
  rw [ht]
  clear ht
  obtain ⟨R, hR⟩ : ∃ R, strOfNums (outL (sums ss t ((padL s).length / 64))) = R := ⟨_, rfl⟩
  rw [hR]
  have HR := Aside0.mk hR
  clear hR
  go_enter Tryd.func86, Tryd.ntmps86
  go_wp2_with (first
    | (go_at_call 93; refine (fresh_calls _).mono ?_; rintro e w1 ⟨rfl, hb⟩; have n0 := Aside0.mk (below_step HB.out hb); clear HB hb; have HB := n0; clear n0)
    | (go_at_call 94; refine (filled_calls s hs _).mono ?_; rintro e w2 ⟨rfl, hb⟩; rw [HT.out]; have n0 := Aside0.mk (below_step HB.out hb); clear HB hb; have HB := n0; clear n0)
    | ((with_reducible refine gate_dst (N := 3) rfl ?_); refine arr_new ?hg (N := 3) ?hd [0, 0, 0, 0, 0, 0, 0, 0] .u32 137 ?hr ?_; (case hd => rfl); (case hg => rfl); (case hr => first | (go_simp; done) | (go_simp; rfl)); intro gx eg w3 hx hb; have HX := Aside0.mk hx; have n0 := Aside0.mk (below_step HB.out hb); have LX := Aside0.mk (show w.heap.size ≤ gx by rw [eg]; exact HB.out.size); clear HB hx hb eg; have HB := n0; clear n0)
    | ((with_reducible refine gate_store (t := 137) (p := 3) (v := .tmp 9) rfl ?_); refine arr_store rfl rfl 137 (.tmp 3) (.tmp 9) rfl gx .u32 [0, 0, 0, 0, 0, 0, 0, 0] h0L rfl rfl 137 HX.out (by kernel_rfl) rfl ?_; intro w4 hx hs; have n0 := Aside0.mk (hs.below HB.out LX.out); clear HB HX; have HX := Aside0.mk hx; have HB := n0; clear n0 hx hs))
  go_loopw [5] (fun i wr => ∃ j : Nat, 64 * j ≤ t.size ∧ i = .int .i64 ((64 * j : Nat) : Int) ∧ IsArr wr gx 137 .u32 (sums ss t j) ∧ Below w.heap.size w wr) (fun i _ => t.size - (intOf i).toNat)
  case atStart => exact ⟨0, by omega, rfl, HX.out, HB.out⟩
  case round =>
    clear HX HB
    obtain ⟨j, hj, rfl, hX, hB⟩ := hrel
    have HB := Aside0.mk hB; have HX := Aside0.mk hX
    clear hB hX
    by_cases hlt : 64 * j < t.size
    · have h64 : 64 * j + 64 ≤ t.size := by omega
      obtain ⟨xs, hxs⟩ : ∃ xs, sums ss t j = xs := ⟨_, rfl⟩
      obtain ⟨blk, hblk⟩ : ∃ b, t.extract (64 * j) (64 * j + 64) = b := ⟨_, rfl⟩
      have HXL := Aside0.mk (show xs.length = 8 by rw [← hxs]; exact sums_length ss t j)
      have hbs : blk.size = 64 := by rw [← hblk, ByteArray.size_extract]; omega
      obtain ⟨ys, hys⟩ : ∃ ys, addUp xs (st xs ss (sp blk 64) 64) 8 = ys := ⟨_, rfl⟩
      have HYL := Aside0.mk (show ys.length = 8 by rw [← hys, addUp_length]; exact HXL.out)
      have CW := Aside0.mk (fun (W : World) (hW : Below w.heap.size w W) => with_calls xs HXL.out blk (sp blk 64) ss (sp_length blk 64) hss W (fun i hi => (hW.cell (p := ⟨3, i, none⟩) hg0).trans (HG.out i hi)) (Nat.lt_of_lt_of_le hg0 hW.size) (fun W => spread_calls blk hbs W))
      rw [hys] at CW
      have HNX := Aside0.mk (show sums ss t (j + 1) = ys by rw [← hys, ← hxs, ← hblk]; rfl)
      rw [hxs] at HX
      have hsl : ∀ W : World, (Instr.slice 9 (.string t) (some (.int .i64 ((64 * j : Nat) : Int))) (some (.int .i64 (wrap64 (((64 * j : Nat) : Int) + 64)))) none).run Tryd.prog W = .ok (.string blk) W := fun W => by
        rw [show wrap64 (((64 * j : Nat) : Int) + 64) = ((64 * j : Nat) : Int) + 64 by unfold wrap64; omega]
        have h := run_slice_string (P := Tryd.prog) (w := W) 9 t .i64 .i64 ((64 * j : Nat) : Int) (((64 * j : Nat) : Int) + 64) Tryd.underlying9 (by omega) (by omega) (by omega)
        rw [h]
        have e2 : (((64 * j : Nat) : Int) + 64).toNat = 64 * j + 64 := by omega
        simp only [Int.toNat_natCast, e2, hblk]
      clear hxs hblk hys
      obtain ⟨at_, hat⟩ : ∃ a : Nat, 64 * j = a := ⟨_, rfl⟩
      rw [hat] at hsl hlt h64 ⊢
      have q0 : decide ((at_ : Int) < (t.size : Int)) = true := decide_eq_true (by omega)
      have HAT := Aside0.mk hat
      have hb1 : (at_ : Int) ≤ 140737488351232 + 200 := by omega
      clear hat hj
      go_wp2
      refine start_ (n := 8) (S := fun w' => IsArr w' gx 137 .u32 xs) (ds := [7]) #[false, false, false, false, false, false, false, false] (by kernel_rfl) rfl rfl (HX.out.drew) (fun hHeld => ?_)
      refine pure_ (i := 1) (N := some 19) (v := ?_) (a' := ?_) #[false, true, false, false, false, false, false, false] rfl rfl (by kernel_rfl) (fun _ _ _ h => h) (Or.inl ⟨by rfl, ?_⟩) ?_ ?_
      rotate_left
      · intro w'
        go_simp
        with_reducible rfl
      rotate_left
      · simp only [Act.put, List.setIfInBounds_toArray, List.set_cons_zero, List.set_cons_succ, i64_w, i32_w]
        rfl
      refine pure_ (i := 2) (N := some 20) (v := ?_) (a' := ?_) #[false, true, true, false, false, false, false, false] rfl rfl (by kernel_rfl) (fun _ _ _ h => h) (Or.inl ⟨by rfl, ?_⟩) ?_ ?_
      rotate_left
      · intro w'
        go_simp
        with_reducible rfl
      rotate_left
      · simp only [Act.put, List.setIfInBounds_toArray, List.set_cons_zero, List.set_cons_succ, i64_w, i32_w]
        rfl
      refine pure_ (i := 3) (N := some 21) (v := ?_) (a' := ?_) #[false, true, true, true, false, false, false, false] rfl rfl (by kernel_rfl) (fun _ _ _ h => h) (Or.inl ⟨by rfl, ?_⟩) ?_ ?_
      rotate_left
      · intro w'
        go_simp
        with_reducible rfl
      rotate_left
      · simp only [Act.put, List.setIfInBounds_toArray, List.set_cons_zero, List.set_cons_succ, i64_w, i32_w]
        rfl
      refine pure_ (i := 4) (N := some 22) (v := ?_) (a' := ?_) #[false, true, true, true, true, false, false, false] rfl rfl (by kernel_rfl) (fun _ _ _ h => h) (Or.inl ⟨by rfl, ?_⟩) ?_ ?_
      rotate_left
      · intro w'
        go_simp
        with_reducible rfl
      rotate_left
      · simp only [Act.put, List.setIfInBounds_toArray, List.set_cons_zero, List.set_cons_succ, i64_w, i32_w]
        rfl
      refine pure_ (i := 5) (N := some 23) (v := ?_) (a' := ?_) #[false, true, true, true, true, true, false, false] rfl rfl (by kernel_rfl) (fun _ _ _ h => h) (Or.inl ⟨by rfl, ?_⟩) ?_ ?_
      rotate_left
      · intro w'
        go_simp
        with_reducible rfl
      rotate_left
      · simp only [Act.put, List.setIfInBounds_toArray, List.set_cons_zero, List.set_cons_succ, i64_w, i32_w]
        rfl
      refine take_ (i := 0) (N := some 18) (v := ?_) (a' := ?_) #[true, true, true, true, true, true, false, false] rfl rfl (by kernel_rfl) (fun _ _ _ h => h) (Or.inl ⟨by rfl, ?_⟩) hHeld ?_ ?_
      rotate_left
      · intro w' s0
        refine run_load_arr 137 (.tmp 3) ?_ gx 8 22 .u32 xs ?_ 137 s0 Tryd.underlying137 (by rw [HXL.out]; kernel_rfl)
        · rfl
        · rfl
      rotate_left
      · simp only [Act.put, List.setIfInBounds_toArray, List.set_cons_zero, List.set_cons_succ, i64_w, i32_w]
        rfl
      refine one_ (i := 6) (N := some 24) #[true, true, true, true, true, true, true, false] rfl rfl (by kernel_rfl) (by decide) (fun K hK => ?_)
      refine goes_ Tryd.func95 (by kernel_rfl) rfl #[.agg (arrK .u32 xs), .string blk] (by rfl) rfl rfl (by simp only [List.map_toArray, List.map_cons, List.map_nil]; rfl) ?_
      with_reducible refine (CW.out _ (below_drew1 HB.out)).mono ?_
      rintro e w8 ⟨rfl, hb3⟩
      refine ⟨_, rfl, ?_⟩
      refine hK.out _ _ (HX.out.drew.below hb3) (fun hHeld => ?_)
      clear hK K
      refine norm_ (a' := ?_) ?_ ?_
      rotate_left
      · show Act.put _ (some 24) _ = _
        simp only [Act.put, List.setIfInBounds_toArray, List.set_cons_zero, List.set_cons_succ, i64_w, i32_w]
        rfl
      refine last_ (i := 7) (N := none) #[true, true, true, true, true, true, true, true] rfl rfl (by kernel_rfl) (by decide) (fun K hK => ?_)
      refine skip_ (w1 := w8.setRow gx (arrK .u32 ys)) (by rfl) rfl ?hst ?_; (case hst => (refine run_store_arr 137 (.tmp 3) (.tmp 24) ?_ gx .u32 xs ys ?_ ?_ 137 hHeld (by rw [HYL.out]; kernel_rfl) (by rw [HXL.out, HYL.out]) <;> rfl))
      refine hK.out _ _ ?_
      clear hK K
      refine done_ (by kernel_rfl) ?_
      have hb8 := (below_drew1 HB.out).trans (hb3.mono (below_drew1 HB.out).size)
      have GB := Aside0.mk ((setRow_blk w8 gx (arrK .u32 ys)).below hb8 LX.out)
      have GX := Aside0.mk (setRow_arr hHeld ys)
      clear hb8 hb3 hHeld
      generalize w8.setRow gx (arrK .u32 ys) = w9 at GB GX ⊢
      go_wp2
      go_roundw
      case rel => exact ⟨j + 1, by have := HAT.out; omega, by have := HAT.out; go_num, by rw [HNX.out]; exact GX.out, GB.out⟩
      case measure => simp [intOf]; omega
    · have ej : j = (padL s).length / 64 := by omega
      obtain ⟨xs, hxs⟩ : ∃ xs, sums ss t j = xs := ⟨_, rfl⟩
      have hxl : xs.length = 8 := by rw [← hxs]; exact sums_length ss t j
      have HRX := Aside0.mk (show strOfNums (outL xs) = R by rw [← HR.out, ← ej, hxs])
      rw [hxs] at HX
      have HXL := Aside0.mk hxl
      clear ej hxs hj htl hm hl
      obtain ⟨at_, hat⟩ : ∃ a : Nat, 64 * j = a := ⟨_, rfl⟩
      rw [hat] at hlt ⊢
      clear hat
      have q0 : decide ((at_ : Int) < (t.size : Int)) = false := decide_eq_false (by omega)
      obtain ⟨i0, hi, hzz⟩ := Option.map_eq_some_iff.1 info5
      simp only [Prod.mk.injEq] at hzz
      obtain ⟨hz0, hz1, hz2⟩ := hzz
      have HI := Aside0.mk (And.intro hi (And.intro hz0 (And.intro hz1 hz2)))
      clear hi hz0 hz1 hz2
      go_wp2_with ((with_reducible refine gate_dst (N := 25) rfl ?_); refine arr_load rfl 137 (.tmp 3) rfl gx 8 22 .u32 xs rfl 137 HX.out Tryd.underlying137 (by rw [HXL.out]; kernel_rfl) ?_)
      go_loopw [6, 26] (fun v i wr => ∃ k : Nat, k ≤ 8 ∧ i = .int .i64 k ∧ wr.ownsRow w.heap.size 5 1 v (4 * k) (nums .u8 (outL (xs.take k))) ∧ Below w.heap.size w wr) (fun _ i _ => 8 - (intOf i).toNat)
      case atStart => exact ⟨0, by omega, rfl, World.ownsRow_nil _ _ _ _, HB.out⟩
      case round =>
        clear HX HB
        obtain ⟨k, hk, rfl, ho, hB⟩ := hrel
        have HB := Aside0.mk hB; have HO := Aside0.mk ho
        clear hB ho
        by_cases h8 : k < 8
        · obtain ⟨x, hx⟩ : ∃ x, xs.getD k 0 = x := ⟨_, rfl⟩
          have hix := fun W => run_index_arr (P := Tryd.prog) 137 22 8 .u32 xs k Tryd.underlying137 (by kernel_rfl) Tryd.underlying22 h8 HXL.out W
          rw [hx] at hix
          have HX2 := Aside0.mk hx
          clear hx
          have q1 : decide ((k : Int) < 8) = true := decide_eq_true (by omega)
          have q2 : (0 : Int) ≤ k := by omega
          go_wp2_with ((with_reducible refine gate_builtin (b := .append) (xs := #[.tmp 29, .tmp 41]) rfl ?_); at_builtin; refine wpList_append_own _ rfl _ _ 34 rfl w.heap.size 5 i0 (.int .u8 0) 1 1 Tryd.underlying34 HI.out.1 HI.out.2.1 HI.out.2.2.1 HI.out.2.2.2 rfl (by decide) _ _ _ rfl (HO.out.alloc _) ⟨wr.heap.size, 0, none⟩ 4 4 [.int .u8 (x / 16777216 % 256), .int .u8 (x / 65536 % 256), .int .u8 (x / 256 % 256), .int .u8 (x % 256)] rfl rfl ?c1 ?c2 ?c3 ?c4 ?c5 ?_)
          case c1 => exact four_cells wr 5 _ _ _ _
          case c2 =>
            intro u hu
            simp only [List.mem_cons, List.not_mem_nil, or_false] at hu
            rcases hu with rfl | rfl | rfl | rfl <;> rfl
          case c3 => unfold maxLen; omega
          case c4 => omega
          case c5 => have := HB.out.size; simp; omega
          intro v' w1 hown' hgrow _
          have G1 := Aside0.mk ((below_alloc HB.out _).grown hgrow (by have := HB.out.size; simp; omega) (fun b hb => (HO.out.lt b hb).1))
          have G2 := Aside0.mk hown'
          clear hown' hgrow
          go_wp2
          go_roundw
          case rel =>
            refine ⟨k + 1, by omega, by go_num, ?_, G1.out⟩
            have e : outL (xs.take (k + 1)) = outL (xs.take k) ++ [x / 16777216 % 256, x / 65536 % 256, x / 256 % 256, x % 256] := by
              have hk2 : k < xs.length := by rw [HXL.out]; exact h8
              rw [List.take_succ_eq_append_getElem hk2]
              have : xs[k] = x := by rw [← HX2.out, List.getD_eq_getElem?_getD, List.getElem?_eq_getElem hk2]; rfl
              rw [this, outL, List.flatMap_append]; simp [outL]
            have g := G2.out
            rw [e]
            simpa [nums, Nat.mul_add] using g
          case measure => simp [intOf]; omega
        · have ek : k = 8 := by omega
          subst ek
          have ex : xs.take 8 = xs := List.take_of_length_le (by rw [HXL.out]; exact Nat.le_refl _)
          rw [ex] at HO
          have hv := own_string (P := Tryd.prog) Tryd.underlying34 Tryd.underlying5 Tryd.underlying9 HO.out
          rw [HRX.out] at hv
          clear ex
          go_wp2
          go_ret
          exact ⟨rfl, HB.out⟩
end Go.Proofs.YtgbhjkkfleeodaaDoor.Sha
