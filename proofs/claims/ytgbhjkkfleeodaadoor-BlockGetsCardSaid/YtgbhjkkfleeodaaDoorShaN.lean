import Derived.Test.YtgbhjkkfleeodaaDoorShaW
namespace Go.Proofs.YtgbhjkkfleeodaaDoor.Sha
open Go.RowKit Go.Proofs.YtgbhjkkfleeodaaDoorW.PrintWords Go.Proofs.YtgbhjkkfleeodaaDoorW.PrintLast Go.Proofs.YtgbhjkkfleeodaaDoorW.PrintMore Go.Proofs.YtgbhjkkfleeodaaDoor.XA Go.Proofs.YtgbhjkkfleeodaaDoor.XM
open Go.Proofs.YtgbhjkkfleeodaaDoor.XB
set_option linter.unusedVariables false
set_option linter.unusedSimpArgs false
theorem ssL_U : AU ssL := by
  intro x hx
  have h := List.all_eq_true.1 (show (ssL.all fun x => decide (0 ≤ x) && decide (x < 4294967296)) = true by kernel_rfl) x hx
  rw [Bool.and_eq_true, decide_eq_true_eq, decide_eq_true_eq] at h
  exact h
theorem outL_length (xs : List Int) : (outL xs).length = 4 * xs.length := by
  induction xs with
  | nil => rfl
  | cons x xs ih => rw [outL, List.flatMap_cons, List.length_append]; have : (List.flatMap (fun n => [n / 16777216 % 256, n / 65536 % 256, n / 256 % 256, n % 256]) xs).length = 4 * xs.length := ih; rw [this]; simp; omega
set_option maxHeartbeats 8000000 in
set_option maxRecDepth 100000 in
theorem refsum_calls (s : ByteArray) (hs : s.size ≤ 140737488351232) (w : World) :
    Calls Tryd.prog 27 #[.string s] w fun e w' => e = .returned (.string (strOfNums (outL (sums ssL (strOfNums (padL s)) ((padL s).length / 64))))) ∧ Below w.heap.size w w' := by
  have HB := Aside0.mk (Below.refl w.heap.size w)
  have H0 := Aside0.mk (rfl : ssL = ssL)
  clear H0
  obtain ⟨t, ht⟩ : ∃ t, strOfNums (padL s) = t := ⟨_, rfl⟩
  have htl : t.size = (padL s).length := by rw [← ht]; show (strOfNums (padL s)).data.size = _; simp [strOfNums]
  have hm : (padL s).length % 64 = 0 := by
    simp [padL, tail8, bytesOf_length, zc]; omega
  have hl : (padL s).length ≤ 140737488351232 + 200 := by
    simp [padL, tail8, bytesOf_length, zc]; omega
  have HT := Aside0.mk ht
  rw [ht]
  clear ht
  obtain ⟨R, hR⟩ : ∃ R, strOfNums (outL (sums ssL t ((padL s).length / 64))) = R := ⟨_, rfl⟩
  rw [hR]
  have HR := Aside0.mk hR
  clear hR
  go_enter Tryd.func27, Tryd.ntmps27
  go_wp2_with (first
    | (go_at_call 51; refine (padded_calls s hs _).mono ?_; rintro e w1 ⟨rfl, hb⟩; rw [HT.out]; have n0 := Aside0.mk (below_step HB.out hb); clear HB hb; have HB := n0; clear n0)
    | (go_at_call 52; refine (known_calls _).mono ?_; rintro e w2 ⟨g, c, rfl, hgl, hC, hb⟩; have LB := Aside0.mk (below_step HB.out hb); clear HB hb; have HB := Aside0.mk (Below.refl w2.heap.size w2); have HG := Aside0.mk hC; have HL := Aside0.mk hgl; clear hC hgl)
    | ((with_reducible refine gate_dst (N := 4) rfl ?_); refine arr_new ?hg (N := 4) ?hd [0, 0, 0, 0, 0, 0, 0, 0] .u32 91 ?hr ?_; (case hd => rfl); (case hg => rfl); (case hr => first | (go_simp; done) | (go_simp; rfl)); intro gx eg w3 hx hb; have HX := Aside0.mk hx; have n0 := Aside0.mk (below_step HB.out hb); have LX := Aside0.mk (show w2.heap.size ≤ gx by rw [eg]; exact HB.out.size); clear HB hx hb eg; have HB := n0; clear n0)
    | ((with_reducible refine gate_store (t := 91) (p := 4) (v := .tmp 12) rfl ?_); refine arr_store rfl rfl 91 (.tmp 4) (.tmp 12) rfl gx .u32 [0, 0, 0, 0, 0, 0, 0, 0] h0L rfl rfl 91 HX.out (by kernel_rfl) rfl ?_; intro w4 hx hs; have n0 := Aside0.mk (hs.below HB.out LX.out); clear HB HX; have HX := Aside0.mk hx; have HB := n0; clear n0 hx hs))
  go_loopw [6] (fun i wr => ∃ j : Nat, 64 * j ≤ t.size ∧ i = .int .i64 ((64 * j : Nat) : Int) ∧ IsArr wr gx 91 .u32 (sums ssL t j) ∧ Below w2.heap.size w2 wr) (fun i _ => t.size - (intOf i).toNat)
  case atStart => exact ⟨0, by omega, rfl, HX.out, HB.out⟩
  case round =>
    clear HX HB
    obtain ⟨j, hj, rfl, hX, hB⟩ := hrel
    have HB := Aside0.mk hB; have HX := Aside0.mk hX
    clear hB hX
    by_cases hlt : 64 * j < t.size
    · have h64 : 64 * j + 64 ≤ t.size := by omega
      obtain ⟨xs, hxs⟩ : ∃ xs, sums ssL t j = xs := ⟨_, rfl⟩
      obtain ⟨blk, hblk⟩ : ∃ b, t.extract (64 * j) (64 * j + 64) = b := ⟨_, rfl⟩
      have HXL := Aside0.mk (show xs.length = 8 by rw [← hxs]; exact sums_length ssL t j)
      have HXU := Aside0.mk (show AU xs by rw [← hxs]; exact sums_U ssL t j)
      have hbs : blk.size = 64 := by rw [← hblk, ByteArray.size_extract]; omega
      obtain ⟨ys, hys⟩ : ∃ ys, addUp xs (st xs ssL (sp blk 64) 64) 8 = ys := ⟨_, rfl⟩
      have HYL := Aside0.mk (show ys.length = 8 by rw [← hys, addUp_length]; exact HXL.out)
      have CW := Aside0.mk (fun (W : World) (hW : Below w2.heap.size w2 W) => words_calls xs HXL.out HXU.out blk hbs ssL ssL_length ssL_U g c W (fun i hi => (hW.cell (p := ⟨g, i, none⟩) HL.out).trans (HG.out i hi)) (Nat.lt_of_lt_of_le HL.out hW.size))
      rw [hys] at CW
      have HNX := Aside0.mk (show sums ssL t (j + 1) = ys by rw [← hys, ← hxs, ← hblk]; rfl)
      rw [hxs] at HX
      have hsl : ∀ W : World, (Instr.slice 9 (.string t) (some (.int .i64 ((64 * j : Nat) : Int))) (some (.int .i64 (wrap64 (((64 * j : Nat) : Int) + 64)))) none).run Tryd.prog W = .ok (.string blk) W := fun W => by
        rw [show wrap64 (((64 * j : Nat) : Int) + 64) = ((64 * j : Nat) : Int) + 64 by unfold wrap64; omega]
        have h := run_slice_string (P := Tryd.prog) (w := W) 9 t .i64 .i64 ((64 * j : Nat) : Int) (((64 * j : Nat) : Int) + 64) Tryd.underlying9 (by omega) (by omega) (by omega)
        rw [h]
        have e2 : (((64 * j : Nat) : Int) + 64).toNat = 64 * j + 64 := by omega
        simp only [Int.toNat_natCast, e2, hblk]
      clear hxs hblk hys
      obtain ⟨at_, hat⟩ : ∃ a : Nat, 64 * j = a := ⟨_, rfl⟩
      rw [hat] at hsl hlt h64 ⊢
      have q0 : decide ((at_ : Int) < (t.size : Int)) = true := decide_eq_true (by omega)
      have HAT := Aside0.mk hat
      have hb1 : (at_ : Int) ≤ 140737488351232 + 200 := by omega
      clear hat hj
      go_wp2
      refine start_ (n := 9) (S := fun w' => IsArr w' gx 91 .u32 xs) (ds := [8]) #[false, false, false, false, false, false, false, false, false] (by kernel_rfl) rfl rfl (HX.out.drew) (fun hHeld => ?_)
      refine pure_ (i := 1) (N := some 21) (v := ?_) (a' := ?_) #[false, true, false, false, false, false, false, false, false] rfl rfl (by kernel_rfl) (fun _ _ _ h => h) (Or.inl ⟨by rfl, ?_⟩) ?_ ?_
      rotate_left
      · intro w'
        go_simp
        with_reducible rfl
      rotate_left
      · simp only [Act.put, List.setIfInBounds_toArray, List.set_cons_zero, List.set_cons_succ, i64_w, i32_w]
        rfl
      refine pure_ (i := 2) (N := some 22) (v := ?_) (a' := ?_) #[false, true, true, false, false, false, false, false, false] rfl rfl (by kernel_rfl) (fun _ _ _ h => h) (Or.inl ⟨by rfl, ?_⟩) ?_ ?_
      rotate_left
      · intro w'
        go_simp
        with_reducible rfl
      rotate_left
      · simp only [Act.put, List.setIfInBounds_toArray, List.set_cons_zero, List.set_cons_succ, i64_w, i32_w]
        rfl
      refine pure_ (i := 3) (N := some 23) (v := ?_) (a' := ?_) #[false, true, true, true, false, false, false, false, false] rfl rfl (by kernel_rfl) (fun _ _ _ h => h) (Or.inl ⟨by rfl, ?_⟩) ?_ ?_
      rotate_left
      · intro w'
        go_simp
        with_reducible rfl
      rotate_left
      · simp only [Act.put, List.setIfInBounds_toArray, List.set_cons_zero, List.set_cons_succ, i64_w, i32_w]
        rfl
      refine pure_ (i := 4) (N := some 24) (v := ?_) (a' := ?_) #[false, true, true, true, true, false, false, false, false] rfl rfl (by kernel_rfl) (fun _ _ _ h => h) (Or.inl ⟨by rfl, ?_⟩) ?_ ?_
      rotate_left
      · intro w'
        go_simp
        with_reducible rfl
      rotate_left
      · simp only [Act.put, List.setIfInBounds_toArray, List.set_cons_zero, List.set_cons_succ, i64_w, i32_w]
        rfl
      refine pure_ (i := 5) (N := some 25) (v := ?_) (a' := ?_) #[false, true, true, true, true, true, false, false, false] rfl rfl (by kernel_rfl) (fun _ _ _ h => h) (Or.inl ⟨by rfl, ?_⟩) ?_ ?_
      rotate_left
      · intro w'
        go_simp
        with_reducible rfl
      rotate_left
      · simp only [Act.put, List.setIfInBounds_toArray, List.set_cons_zero, List.set_cons_succ, i64_w, i32_w]
        rfl
      refine pure_ (i := 6) (N := some 26) (v := ?_) (a' := ?_) #[false, true, true, true, true, true, true, false, false] rfl rfl (by kernel_rfl) (fun _ _ _ h => h) (Or.inl ⟨by rfl, ?_⟩) ?_ ?_
      rotate_left
      · intro w'
        go_simp
        with_reducible rfl
      rotate_left
      · simp only [Act.put, List.setIfInBounds_toArray, List.set_cons_zero, List.set_cons_succ, i64_w, i32_w]
        rfl
      refine take_ (i := 0) (N := some 20) (v := ?_) (a' := ?_) #[true, true, true, true, true, true, true, false, false] rfl rfl (by kernel_rfl) (fun _ _ _ h => h) (Or.inl ⟨by rfl, ?_⟩) hHeld ?_ ?_
      rotate_left
      · intro w' s0
        refine run_load_arr 91 (.tmp 4) ?_ gx 8 22 .u32 xs ?_ 91 s0 Tryd.underlying91 (by rw [HXL.out]; kernel_rfl)
        · rfl
        · rfl
      rotate_left
      · simp only [Act.put, List.setIfInBounds_toArray, List.set_cons_zero, List.set_cons_succ, i64_w, i32_w]
        rfl
      refine one_ (i := 7) (N := some 27) #[true, true, true, true, true, true, true, true, false] rfl rfl (by kernel_rfl) (by decide) (fun K hK => ?_)
      refine goes_ Tryd.func53 (by kernel_rfl) rfl #[.agg (arrK .u32 xs), .string blk, .slice (some ⟨g, 0, none⟩) 64 c] (by rfl) rfl rfl (by simp only [List.map_toArray, List.map_cons, List.map_nil]; rfl) ?_
      with_reducible refine (CW.out _ (below_drew1 HB.out)).mono ?_
      rintro e w8 ⟨rfl, hb3⟩
      refine ⟨_, rfl, ?_⟩
      refine hK.out _ _ (HX.out.drew.below hb3) (fun hHeld => ?_)
      clear hK K
      refine norm_ (a' := ?_) ?_ ?_
      rotate_left
      · show Act.put _ (some 27) _ = _
        simp only [Act.put, List.setIfInBounds_toArray, List.set_cons_zero, List.set_cons_succ, i64_w, i32_w]
        rfl
      refine last_ (i := 8) (N := none) #[true, true, true, true, true, true, true, true, true] rfl rfl (by kernel_rfl) (by decide) (fun K hK => ?_)
      refine skip_ (w1 := w8.setRow gx (arrK .u32 ys)) (by rfl) rfl ?hst ?_; (case hst => (refine run_store_arr 91 (.tmp 4) (.tmp 27) ?_ gx .u32 xs ys ?_ ?_ 91 hHeld (by rw [HYL.out]; kernel_rfl) (by rw [HXL.out, HYL.out]) <;> rfl))
      refine hK.out _ _ ?_
      clear hK K
      refine done_ (by kernel_rfl) ?_
      have hb8 := (below_drew1 HB.out).trans (hb3.mono (below_drew1 HB.out).size)
      have GB := Aside0.mk ((setRow_blk w8 gx (arrK .u32 ys)).below hb8 LX.out)
      have GX := Aside0.mk (setRow_arr hHeld ys)
      clear hb8 hb3 hHeld
      generalize w8.setRow gx (arrK .u32 ys) = w9 at GB GX ⊢
      go_wp2
      go_roundw
      case rel => exact ⟨j + 1, by have := HAT.out; omega, by have := HAT.out; go_num, by rw [HNX.out]; exact GX.out, GB.out⟩
      case measure => simp [intOf]; omega
    · have ej : j = (padL s).length / 64 := by omega
      obtain ⟨xs, hxs⟩ : ∃ xs, sums ssL t j = xs := ⟨_, rfl⟩
      have HXU := Aside0.mk (show AU xs by rw [← hxs]; exact sums_U ssL t j)
      have hxl : xs.length = 8 := by rw [← hxs]; exact sums_length ssL t j
      have HRX := Aside0.mk (show strOfNums (outL xs) = R by rw [← HR.out, ← ej, hxs])
      rw [hxs] at HX
      have HXL := Aside0.mk hxl
      clear ej hxs hj htl hm hl hxl
      obtain ⟨at_, hat⟩ : ∃ a : Nat, 64 * j = a := ⟨_, rfl⟩
      rw [hat] at hlt ⊢
      clear hat
      have q0 : decide ((at_ : Int) < (t.size : Int)) = false := decide_eq_false (by omega)
      go_wp2
      clear q0 hlt
      go_loopw [7, 8] (fun v i wr => ∃ k : Nat, k ≤ 8 ∧ i = .int .i64 k ∧ v = .string (strOfNums (outL (xs.take k))) ∧ IsArr wr gx 91 .u32 xs ∧ Below w2.heap.size w2 wr) (fun _ i _ => 8 - (intOf i).toNat)
      case atStart => exact ⟨0, by omega, rfl, by rw [str_nil]; rfl, HX.out, HB.out⟩
      case round =>
        clear HX HB
        obtain ⟨k, hk, rfl, rfl, hX, hB⟩ := hrel
        have HB := Aside0.mk hB; have HX := Aside0.mk hX
        clear hB hX
        obtain ⟨o, ho⟩ : ∃ o, strOfNums (outL (xs.take k)) = o := ⟨_, rfl⟩
        simp only [ho]
        by_cases h8 : k < 8
        · obtain ⟨x, hx⟩ : ∃ x, xs.getD k 0 = x := ⟨_, rfl⟩
          have hux : U x := by rw [← hx]; exact HXU.out.getD k
          have ux0 : 0 ≤ x := hux.1
          have ux1 : x < 4294967296 := hux.2
          clear hux
          have hcx : wr.cell? ⟨gx, k, none⟩ = some (.int .u32 x) := by rw [← hx]; exact HX.out.cell k (by rw [HXL.out]; omega)
          have HX2 := Aside0.mk hx
          have hosz : o.size = 4 * k := by rw [← ho, strOfNums_size, outL_length, List.length_take, HXL.out]; omega
          obtain ⟨ys, hys⟩ : ∃ ys : List Int, ys = [x / 16777216 % 256, x / 65536 % 256 % 256, x / 256 % 256 % 256, x % 256 % 256] := ⟨_, rfl⟩
          have hsz : (strOfNums ys).size = 4 := by rw [strOfNums_size, hys]; rfl
          have b1 : (o.size + (strOfNums ys).size ≤ 9223372036854775807) = True := eq_true (by omega)
          have b2 : (9223372036854775807 < o.size + (strOfNums ys).size) = False := eq_false (by omega)
          have NY := Aside0.mk hys
          have HO := Aside0.mk ho
          clear hx ho hys hsz hosz
          have q1 : decide ((k : Int) < 8) = true := decide_eq_true (by omega)
          have q2 : (0 : Int) ≤ k := by omega
          have q3 : (k : Int) < 8 := by omega
          have hta : Int.tdiv x 16777216 = x / 16777216 := td ux0
          have htb : Int.tdiv x 65536 = x / 65536 := td ux0
          have htc : Int.tdiv x 256 = x / 256 := td ux0
          have htd : Int.tmod x 256 = x % 256 := tm ux0
          have hte : Int.tmod (x / 65536) 256 = x / 65536 % 256 := tm (by omega)
          have htf : Int.tmod (x / 256) 256 = x / 256 % 256 := tm (by omega)
          have hwa : IntKind.u32.wrap (x / 16777216) = x / 16777216 := by rw [IntKind.wrap_u32]; omega
          have hwb : IntKind.u32.wrap (x / 65536) = x / 65536 := by rw [IntKind.wrap_u32]; omega
          have hwc : IntKind.u32.wrap (x / 256) = x / 256 := by rw [IntKind.wrap_u32]; omega
          clear ux0 ux1
          go_wp2_with ((with_reducible refine gate_dst (N := 50) rfl ?_); refine Kd.R_lit (Kd.int .u8) _ 5 ?hg (N := 50) ?hd (xs := ([x / 16777216 % 256, x / 65536 % 256 % 256, x / 256 % 256 % 256, x % 256 % 256] : List Int)) (inner := [.int .u8 (x / 16777216 % 256), .int .u8 (x / 65536 % 256 % 256), .int .u8 (x / 256 % 256 % 256), .int .u8 (x % 256 % 256)]) (ok := fun _ => True) (okp := fun _ => True) ?hr ?hp (fun _ hk => hk) trivial (Below.refl _ _) (Nat.le_refl _) (by simp) ?_; (case hd => rfl); (case hg => rfl); (case hr => first | (go_simp; done) | (go_simp; rfl)); (case hp => exact (Reps.one (show Kd.M (Kd.int .u8) _ _ _ (x / 16777216 % 256) [.int .u8 (x / 16777216 % 256)] from rfl) (Reps.one (show Kd.M (Kd.int .u8) _ _ _ (x / 65536 % 256 % 256) [.int .u8 (x / 65536 % 256 % 256)] from rfl) (Reps.one (show Kd.M (Kd.int .u8) _ _ _ (x / 256 % 256 % 256) [.int .u8 (x / 256 % 256 % 256)] from rfl) (Reps.one (show Kd.M (Kd.int .u8) _ _ _ (x % 256 % 256) [.int .u8 (x % 256 % 256)] from rfl) (Reps.none _ _)))))); intro v102 w7 ho8 hb hg_ hnew_; clear hg_ hnew_; rw [← NY.out] at ho8; have n0_ := Aside0.mk (Kd.R_lower ho8 HB.out.size); have n1_ := Aside0.mk (below_step HB.out hb); have n2_ := Aside0.mk (HX.out.below hb); clear HB HX; have HO103 := n0_; have HB := n1_; have HX := n2_; clear n0_ n1_ n2_; clear hb ho8 hcx; have hcv9 := own_string (P := Tryd.prog) Tryd.underlying34 Tryd.underlying5 Tryd.underlying9 (Kd.own_of_R HO103.out))
          go_roundw
          case measure => simp [intOf]; omega
          case rel =>
            refine ⟨k + 1, by omega, by go_num, ?_, HX.out, HB.out⟩
            have e : outL (xs.take (k + 1)) = outL (xs.take k) ++ [x / 16777216 % 256, x / 65536 % 256, x / 256 % 256, x % 256] := by
              have hk2 : k < xs.length := by rw [HXL.out]; exact h8
              rw [List.take_succ_eq_append_getElem hk2]
              have : xs[k] = x := by rw [← HX2.out, List.getD_eq_getElem?_getD, List.getElem?_eq_getElem hk2]; rfl
              rw [this, outL, List.flatMap_append]; simp [outL]
            rw [e, strOfNums_append, HO.out, NY.out]
            simp only [Int.emod_emod_of_dvd _ (Int.dvd_refl 256)]
        · have ek : k = 8 := by omega
          subst ek
          have ex : xs.take 8 = xs := List.take_of_length_le (by rw [HXL.out]; exact Nat.le_refl _)
          have hoR : o = R := by rw [← ho, ex]; exact HRX.out
          clear ho ex
          subst hoR
          go_wp2
          go_ret
          exact ⟨rfl, below_step LB.out HB.out⟩
end Go.Proofs.YtgbhjkkfleeodaaDoor.Sha
