/- Whether two texts are the same: the law of it, walked. -/
import Derived.Test.YticmmdbmpepmkaaDoorHmS
import Derived.Test.YticmmdbmpepmkaaDoorHmD
import Derived.Test.YticmmdbmpepmkaaDoorHmE
namespace Go.Proofs.YticmmdbmpepmkaaDoor.HmS
open Go.RowKit Go.Proofs.YticmmdbmpepmkaaDoorW.PrintWords Go.Proofs.YticmmdbmpepmkaaDoorW.PrintLast Go.Proofs.YticmmdbmpepmkaaDoorW.PrintMore Go.Proofs.YticmmdbmpepmkaaDoor.XA Go.Proofs.YticmmdbmpepmkaaDoor.XB Go.Proofs.YticmmdbmpepmkaaDoor.XL Go.Proofs.YticmmdbmpepmkaaDoor.XM Go.Proofs.YticmmdbmpepmkaaDoor.Sha Go.Proofs.YticmmdbmpepmkaaDoor.PHmacSame
attribute [local go_sem] max2_int min2_int max_two min_two max_three min_three max_four min_four   -- for this text's walks alone
set_option linter.unusedVariables false
set_option linter.unusedSimpArgs false
set_option maxHeartbeats 8000000 in
set_option maxRecDepth 100000 in
theorem law_calls (a b : ByteArray) (p q : Int) (hp : 0 ≤ p ∧ p ≤ 255) (hq : 0 ≤ q ∧ q ≤ 255) (ha : a.size ≤ 140737488351232) (hb : b.size ≤ 140737488351232) (haw : lodestonelaw02_awake.f = some true) (w : World) (hG : SL w) :
    Calls Tryd.prog 4 #[.string a, .string b, .agg #[.int .u8 p, .int .u8 q]] w fun e w' => e = .returned (.bool true) ∧ Below w.heap.size w w' := by
  obtain ⟨m1, hm1⟩ : ∃ m : Int, (if 300 < (a.size : Int) then 300 else (a.size : Int)) = m := ⟨_, rfl⟩
  obtain ⟨m2, hm2⟩ : ∃ m : Int, (if 300 < (b.size : Int) then 300 else (b.size : Int)) = m := ⟨_, rfl⟩
  have g1 : 0 ≤ m1 ∧ m1 ≤ (a.size : Int) ∧ m1 ≤ 300 := by rw [← hm1]; split <;> omega
  have g2 : 0 ≤ m2 ∧ m2 ≤ (b.size : Int) ∧ m2 ≤ 300 := by rw [← hm2]; split <;> omega
  obtain ⟨x, hx⟩ : ∃ x, a.extract 0 m1.toNat = x := ⟨_, rfl⟩
  obtain ⟨y, hy⟩ : ∃ y, b.extract 0 m2.toNat = y := ⟨_, rfl⟩
  have hxs : x.size ≤ 300 := by rw [← hx, ByteArray.size_extract]; omega
  have hys : y.size ≤ 300 := by rw [← hy, ByteArray.size_extract]; omega
  have hsa : ∀ W : World, (Instr.slice 9 (.string a) none (some (.int .i64 m1)) none).run Tryd.prog W = .ok (.string x) W := fun W => by
    have h := run_slice_string_to_if (P := Tryd.prog) (w := W) 9 a .i64 m1 Tryd.underlying9
    rw [h, if_pos ⟨g1.1, g1.2.1⟩, hx]
  have hsb : ∀ W : World, (Instr.slice 9 (.string b) none (some (.int .i64 m2)) none).run Tryd.prog W = .ok (.string y) W := fun W => by
    have h := run_slice_string_to_if (P := Tryd.prog) (w := W) 9 b .i64 m2 Tryd.underlying9
    rw [h, if_pos ⟨g2.1, g2.2.1⟩, hy]
  obtain ⟨z, hz⟩ : ∃ z, x ++ (⟨#[48]⟩ : ByteArray) = z := ⟨_, rfl⟩
  have hzs : z.size = x.size + 1 := by rw [← hz, ByteArray.size_append]; rfl
  have HX := Aside0.mk hxs
  have HY := Aside0.mk hys
  have HZ := Aside0.mk hz
  have HZS := Aside0.mk hzs
  have HG := Aside0.mk hG
  have HP := Aside0.mk hp
  have HQ := Aside0.mk hq
  have HAW := Aside0.mk haw
  have HB := Aside0.mk (Below.refl w.heap.size w)
  clear hG hx hy g1 g2 ha hb hp hq haw hxs hys hz hzs
  go_enter Tryd.func4, Tryd.ntmps4
  go_wp2_with ((with_reducible refine gate_dst (N := 5) rfl ?_); refine arr_new ?hg (N := 5) ?hd [p, q] .u8 25 ?hr ?_; (case hd => rfl); (case hg => rfl); (case hr => first | (go_simp; done) | (go_simp; rfl)); intro g5 eg w1 hx hb; have HA := Aside0.mk hx; have n0 := Aside0.mk (below_step HB.out hb); clear HB hx hb eg; have HB := n0; clear n0)
  go_quiet (fail)
  all_goals have F2 := Aside0.mk (And.intro (HA.out.drewN nq) (pw_below_drewN HB.out nq))
  clear HA HB hsa hsb hm1 hm2
  generalize w1.drewN nq = w2 at F2 ⊢
  have HA := Aside0.mk F2.out.1
  have HB := Aside0.mk F2.out.2
  clear F2
  have e0 : x ++ (⟨#[48]⟩ : ByteArray) = z := HZ.out
  have b1 : (x.size + 1 ≤ 9223372036854775807) = True := eq_true (by have := HX.out; omega)
  have b2 : (9223372036854775807 < x.size + 1) = False := eq_false (by have := HX.out; omega)
  have kc := fun (W : World) => print_bytes (P := Tryd.prog) 9 26 5 Tryd.underlying9 Tryd.underlying26 Tryd.underlying5 z W
  go_wp2
  have HZB := Aside0.mk (show z.size ≤ 301 by have := HX.out; have := HZS.out; omega)
  have HO := Aside0.mk (ownM_bytes w2 5 z (by have := HZB.out; unfold maxLen; omega) w.heap.size HB.out.size)
  have K2 := bytes_below (Below.refl w2.heap.size w2) (Nat.le_refl _) 5 z
  have n1 := Aside0.mk (HA.out.below K2)
  have n2 := Aside0.mk (HB.out.trans (K2.mono HB.out.size))
  have NE := Aside0.mk (show g5 ≠ w2.heap.size from Nat.ne_of_lt HA.out.lt)
  have LB := Aside0.mk (show w.heap.size ≤ w2.heap.size from HB.out.size)
  obtain ⟨cap, hcap⟩ : ∃ c, grownCap w2 z.size 0 5 = c := ⟨_, rfl⟩
  obtain ⟨gb, hgb⟩ : ∃ g, w2.heap.size = g := ⟨_, rfl⟩
  rw [hcap, hgb] at HO ⊢
  rw [hgb] at NE LB
  clear HA HB K2 kc hcap hgb e0 b1 b2
  generalize Lib.bytesWorld w2 5 z = w3 at HO n1 n2 ⊢
  have HA := n1
  have HB := n2
  clear n1 n2
  obtain ⟨i, hi⟩ : ∃ i : Nat, p % (z.size : Int) = i := ⟨(p % (z.size : Int)).toNat, by have h1 := Int.emod_nonneg p (b := (z.size : Int)) (by have := HZS.out; omega); omega⟩
  have hil : i < z.size := by
    have h1 := Int.emod_lt_of_pos p (b := (z.size : Int)) (by have := HZS.out; omega)
    omega
  have t1 : Int.tmod p (z.size : Int) = i := by rw [← hi]; exact Int.tmod_eq_emod_of_nonneg HP.out.1
  have z1 : ((z.size : Int) = 0) = False := eq_false (by have := HZS.out; omega)
  have z2 : (0 : Int) ≤ i := by omega
  have z3 : (i : Int) < (z.size : Int) := by omega
  have z4 : wrap64 p = p := w64 (by have := HP.out; omega) (by have := HP.out; omega)
  obtain ⟨bv, hbv⟩ : ∃ v, bt z (i : Int) = v := ⟨_, rfl⟩
  have c0 : w3.cell? ⟨g5, 0, none⟩ = some (.int .u8 p) := HA.out.cell 0 (by simp)
  have c1 : w3.cell? ⟨g5, 1, none⟩ = some (.int .u8 q) := HA.out.cell 1 (by simp)
  have cb : w3.cell? ⟨gb, i, none⟩ = some (.int .u8 bv) := by
    rw [← hbv, bt_nat]
    exact HO.out.cell i (by rw [bytesOf_length]; exact hil)
  have fb := HO.out.frozen i (by rw [bytesOf_length]; exact hil)
  have HI := Aside0.mk hil
  have HV := Aside0.mk hbv
  clear hi hil hbv
  go_region
  obtain ⟨v, hv⟩ : ∃ v, Go.bits .xor .u8 bv q = v := ⟨_, rfl⟩
  rw [hv]
  have n0 := Aside0.mk ((HO.out.set i v).drew)
  have n1 := Aside0.mk ((HA.out.far (p := ⟨gb, i, none⟩) NE.out (.int .u8 v)).drew)
  have n2 := Aside0.mk (below_drew1 (below_set (g := gb) (j := i) (v := .int .u8 v) HB.out LB.out))
  have hbv := HV.out
  have hbr := bt_range z (i : Int)
  rw [hbv] at hbr
  have hbb := byte_bits hbr HQ.out
  have hxr := (xor8 hbr HQ.out).1
  rw [hv] at hbb hxr
  obtain ⟨cs, hcs⟩ : ∃ cs, (bytesOf z).set i v = cs := ⟨_, rfl⟩
  rw [hcs] at n0
  have hcl : cs.length = z.size := by rw [← hcs, List.length_set, bytesOf_length]
  obtain ⟨C, hC⟩ : ∃ C, strOfNums cs = C := ⟨_, rfl⟩
  have hCs : C.size = z.size := by rw [← hC, strOfNums_size, hcl]
  have hzC : z = C ↔ q = 0 := by
    rw [← hbb.2.2.2]
    constructor
    · intro h
      have h2 : bt z (i : Int) = v := by
        rw [h, ← hC]
        have hr : ∀ u ∈ cs, 0 ≤ u ∧ u ≤ 255 := by
          intro u hu
          rw [← hcs] at hu
          rcases List.mem_or_eq_of_mem_set hu with h3 | h3
          · have h4 := List.mem_map.mp h3
            obtain ⟨c, _, rfl⟩ := h4
            have := c.toNat_lt
            omega
          · rw [h3]; exact hxr
        have hbo : bytesOf (strOfNums cs) = cs := by
          unfold bytesOf
          rw [strOfNums_data, List.map_map]
          conv => rhs; rw [← List.map_id cs]
          apply List.map_congr_left
          intro u hu
          have := hr u hu
          simp
          omega
        rw [bt_nat, hbo, ← hcs, List.getD_eq_getElem?_getD, List.getElem?_set_self (by rw [bytesOf_length]; exact HI.out)]; rfl
      rw [← h2, hbv]
    · intro h
      rw [← hC, ← hcs, h, show bv = (bytesOf z).getD i 0 by rw [← hbv, bt_nat], List.getD_eq_getElem?_getD, List.getElem?_eq_getElem (by rw [bytesOf_length]; exact HI.out)]
      simp [strOfNums_bytesOf]
  obtain ⟨r1, hf1, hr1⟩ := same_f x y (by have := HX.out; omega) (by have := HY.out; omega)
  obtain ⟨r2, hf2, hr2⟩ := same_f x x (by have := HX.out; omega) (by have := HX.out; omega)
  obtain ⟨r3, hf3, hr3⟩ := same_f z C (by have := HZB.out; omega) (by have := HZB.out; omega)
  obtain ⟨r4, hf4, hr4⟩ := same_f x z (by have := HX.out; omega) (by have := HZB.out; omega)
  have x1 : r1 = (x.toList == y.toList) := by rw [Bool.eq_iff_iff, hr1, beq_iff_eq, toList_inj]
  have x2 : r2 = true := hr2.mpr rfl
  have x3 : r3 = (q == 0) := by rw [Bool.eq_iff_iff, hr3, hzC, beq_iff_eq]
  have x4 : r4 = false := by
    cases r4
    · rfl
    · have h := hr4.mp rfl
      have h2 := HZS.out
      rw [← h] at h2
      omega
  subst x1 x2 x3 x4
  have F1 := Aside0.mk hf1
  have F2 := Aside0.mk hf2
  have F3 := Aside0.mk hf3
  have F4 := Aside0.mk hf4
  have HCL := Aside0.mk hcl
  have HC := Aside0.mk hC
  clear hf1 hf2 hf3 hf4 hr1 hr2 hr3 hr4 hzC hCs hC hcl hbb hxr hbr hbv c0 c1 cb fb z1 z2 z3 z4 t1 HO HA HB
  generalize (w3.setCell ⟨gb, i, none⟩ (.int .u8 v)).drew = w4 at n0 n1 n2 ⊢
  have e0 : x ++ (⟨#[48]⟩ : ByteArray) = z := HZ.out
  have b1 : (x.size + 1 ≤ 9223372036854775807) = True := eq_true (by have := HX.out; omega)
  have b2 : (9223372036854775807 < x.size + 1) = False := eq_false (by have := HX.out; omega)
  clear hv hcs
  go_wp2
  refine start_ (n := 34) (S := fun w' => OwnM w' w.heap.size 5 (.slice (some ⟨gb, 0, none⟩) z.size cap) cs ∧ IsArr w' g5 25 .u8 [p, q] ∧ Below w.heap.size w w') (ds := []) #[false, false, false, false, false, false, false, false, false, false, false, false, false, false, false, false, false, false, false, false, false, false, false, false, false, false, false, false, false, false, false, false, false, false] (by kernel_rfl) rfl rfl ⟨n0.out.drew, n1.out.drew, below_drew1 n2.out⟩ (fun hHeld => ?_)
  refine one_ (i := 0) (N := some 36) #[true, false, false, false, false, false, false, false, false, false, false, false, false, false, false, false, false, false, false, false, false, false, false, false, false, false, false, false, false, false, false, false, false, false] rfl rfl (by kernel_rfl) (by decide) (fun K hK => ?_)
  refine goes_ Tryd.func7 (by kernel_rfl) rfl #[] (by rfl) rfl rfl (by (try simp only [List.map_toArray, List.map_cons, List.map_nil]); first | done | rfl) ?_
  with_reducible refine (lodestonelaw02_awake.calls true _ ?side1 HAW.out).mono ?_
  (case side1 => exact SL.below HG.out hHeld.2.2)
  rintro e w9 ⟨rfl, hb⟩
  refine ⟨_, rfl, ?_⟩
  refine hK.out _ _ ⟨hHeld.1.below hb, hHeld.2.1.below hb, below_step hHeld.2.2 hb⟩ (fun hHeld => ?_)
  clear hK K
  refine norm_ (a' := ?_) ?_ ?_
  rotate_left
  · show Act.put _ (some 36) _ = _
    simp only [Act.put, List.setIfInBounds_toArray, List.set_cons_zero, List.set_cons_succ, i64_w, i32_w]
    rfl
  refine pure_ (i := 1) (N := some 37) (v := ?_) (a' := ?_) #[true, true, false, false, false, false, false, false, false, false, false, false, false, false, false, false, false, false, false, false, false, false, false, false, false, false, false, false, false, false, false, false, false, false] rfl rfl (by kernel_rfl) (fun _ _ _ h => h) (Or.inl ⟨by rfl, ?_⟩) ?_ ?_
  rotate_left
  · intro w'
    go_simp
    with_reducible rfl
  rotate_left
  · simp only [Act.put, List.setIfInBounds_toArray, List.set_cons_zero, List.set_cons_succ, i64_w, i32_w]
    rfl
  refine pure_ (i := 2) (N := some 38) (v := ?_) (a' := ?_) #[true, true, true, false, false, false, false, false, false, false, false, false, false, false, false, false, false, false, false, false, false, false, false, false, false, false, false, false, false, false, false, false, false, false] rfl rfl (by kernel_rfl) (fun _ _ _ h => h) (Or.inl ⟨by rfl, ?_⟩) ?_ ?_
  rotate_left
  · intro w'
    go_simp
    with_reducible rfl
  rotate_left
  · simp only [Act.put, List.setIfInBounds_toArray, List.set_cons_zero, List.set_cons_succ, i64_w, i32_w]
    rfl
  refine pure_ (i := 3) (N := some 39) (v := ?_) (a' := ?_) #[true, true, true, true, false, false, false, false, false, false, false, false, false, false, false, false, false, false, false, false, false, false, false, false, false, false, false, false, false, false, false, false, false, false] rfl rfl (by kernel_rfl) (fun _ _ _ h => h) (Or.inl ⟨by rfl, ?_⟩) ?_ ?_
  rotate_left
  · intro w'
    go_simp
    with_reducible rfl
  rotate_left
  · simp only [Act.put, List.setIfInBounds_toArray, List.set_cons_zero, List.set_cons_succ, i64_w, i32_w]
    rfl
  refine pure_ (i := 5) (N := some 41) (v := ?_) (a' := ?_) #[true, true, true, true, false, true, false, false, false, false, false, false, false, false, false, false, false, false, false, false, false, false, false, false, false, false, false, false, false, false, false, false, false, false] rfl rfl (by kernel_rfl) (fun _ _ _ h => h) (Or.inl ⟨by rfl, ?_⟩) ?_ ?_
  rotate_left
  · intro w'
    go_simp
    with_reducible rfl
  rotate_left
  · simp only [Act.put, List.setIfInBounds_toArray, List.set_cons_zero, List.set_cons_succ, i64_w, i32_w]
    rfl
  refine pure_ (i := 6) (N := some 42) (v := ?_) (a' := ?_) #[true, true, true, true, false, true, true, false, false, false, false, false, false, false, false, false, false, false, false, false, false, false, false, false, false, false, false, false, false, false, false, false, false, false] rfl rfl (by kernel_rfl) (fun _ _ _ h => h) (Or.inl ⟨by rfl, ?_⟩) ?_ ?_
  rotate_left
  · intro w'
    go_simp
    with_reducible rfl
  rotate_left
  · simp only [Act.put, List.setIfInBounds_toArray, List.set_cons_zero, List.set_cons_succ, i64_w, i32_w]
    rfl
  refine pure_ (i := 7) (N := some 43) (v := ?_) (a' := ?_) #[true, true, true, true, false, true, true, true, false, false, false, false, false, false, false, false, false, false, false, false, false, false, false, false, false, false, false, false, false, false, false, false, false, false] rfl rfl (by kernel_rfl) (fun _ _ _ h => h) (Or.inl ⟨by rfl, ?_⟩) ?_ ?_
  rotate_left
  · intro w'
    go_simp
    with_reducible rfl
  rotate_left
  · simp only [Act.put, List.setIfInBounds_toArray, List.set_cons_zero, List.set_cons_succ, i64_w, i32_w]
    rfl
  refine one_ (i := 4) (N := some 40) #[true, true, true, true, true, true, true, true, false, false, false, false, false, false, false, false, false, false, false, false, false, false, false, false, false, false, false, false, false, false, false, false, false, false] rfl rfl (by kernel_rfl) (by decide) (fun K hK => ?_)
  refine goes_ Tryd.func11 (by kernel_rfl) rfl #[.string x, .string y] (by rfl) rfl rfl (by simp only [List.map_toArray, List.map_cons, List.map_nil]; rfl) ?_
  with_reducible refine (hmac_Same.calls 500 x y _ _ F1.out).mono ?_
  rintro e w' ⟨rfl, ⟨nd, rfl⟩⟩
  refine ⟨_, rfl, ?_⟩
  refine hK.out _ _ ⟨hHeld.1.drewN _, hHeld.2.1.drewN _, pw_below_drewN hHeld.2.2 _⟩ (fun hHeld => ?_)
  clear hK K
  refine norm_ (a' := ?_) ?_ ?_
  rotate_left
  · show Act.put _ (some 40) _ = _
    simp only [Act.put, List.setIfInBounds_toArray, List.set_cons_zero, List.set_cons_succ, i64_w, i32_w]
    rfl
  refine pure_ (i := 8) (N := some 44) (v := ?_) (a' := ?_) #[true, true, true, true, true, true, true, true, true, false, false, false, false, false, false, false, false, false, false, false, false, false, false, false, false, false, false, false, false, false, false, false, false, false] rfl rfl (by kernel_rfl) (fun _ _ _ h => h) (Or.inl ⟨by rfl, ?_⟩) ?_ ?_
  rotate_left
  · intro w'
    go_simp
    with_reducible rfl
  rotate_left
  · simp only [Act.put, List.setIfInBounds_toArray, List.set_cons_zero, List.set_cons_succ, i64_w, i32_w]
    rfl
  refine pure_ (i := 9) (N := some 45) (v := ?_) (a' := ?_) #[true, true, true, true, true, true, true, true, true, true, false, false, false, false, false, false, false, false, false, false, false, false, false, false, false, false, false, false, false, false, false, false, false, false] rfl rfl (by kernel_rfl) (fun _ _ _ h => h) (Or.inl ⟨by rfl, ?_⟩) ?_ ?_
  rotate_left
  · intro w'
    go_simp
    with_reducible rfl
  rotate_left
  · simp only [Act.put, List.setIfInBounds_toArray, List.set_cons_zero, List.set_cons_succ, i64_w, i32_w]
    rfl
  refine pure_ (i := 10) (N := some 46) (v := ?_) (a' := ?_) #[true, true, true, true, true, true, true, true, true, true, true, false, false, false, false, false, false, false, false, false, false, false, false, false, false, false, false, false, false, false, false, false, false, false] rfl rfl (by kernel_rfl) (fun _ _ _ h => h) (Or.inl ⟨by rfl, ?_⟩) ?_ ?_
  rotate_left
  · intro w'
    go_simp
    with_reducible rfl
  rotate_left
  · simp only [Act.put, List.setIfInBounds_toArray, List.set_cons_zero, List.set_cons_succ, i64_w, i32_w]
    rfl
  refine pure_ (i := 11) (N := some 47) (v := ?_) (a' := ?_) #[true, true, true, true, true, true, true, true, true, true, true, true, false, false, false, false, false, false, false, false, false, false, false, false, false, false, false, false, false, false, false, false, false, false] rfl rfl (by kernel_rfl) (fun _ _ _ h => h) (Or.inl ⟨by rfl, ?_⟩) ?_ ?_
  rotate_left
  · intro w'
    go_simp
    with_reducible rfl
  rotate_left
  · simp only [Act.put, List.setIfInBounds_toArray, List.set_cons_zero, List.set_cons_succ, i64_w, i32_w]
    rfl
  refine pure_ (i := 12) (N := some 48) (v := ?_) (a' := ?_) #[true, true, true, true, true, true, true, true, true, true, true, true, true, false, false, false, false, false, false, false, false, false, false, false, false, false, false, false, false, false, false, false, false, false] rfl rfl (by kernel_rfl) (fun _ _ _ h => h) (Or.inl ⟨by rfl, ?_⟩) ?_ ?_
  rotate_left
  · intro w'
    go_simp
    with_reducible rfl
  rotate_left
  · simp only [Act.put, List.setIfInBounds_toArray, List.set_cons_zero, List.set_cons_succ, i64_w, i32_w]
    rfl
  refine one_ (i := 13) (N := some 49) #[true, true, true, true, true, true, true, true, true, true, true, true, true, true, false, false, false, false, false, false, false, false, false, false, false, false, false, false, false, false, false, false, false, false] rfl rfl (by kernel_rfl) (by decide) (fun K hK => ?_)
  refine goes_ Tryd.func11 (by kernel_rfl) rfl #[.string x, .string x] (by rfl) rfl rfl (by simp only [List.map_toArray, List.map_cons, List.map_nil]; rfl) ?_
  with_reducible refine (hmac_Same.calls 500 x x _ _ F2.out).mono ?_
  rintro e w' ⟨rfl, ⟨nd, rfl⟩⟩
  refine ⟨_, rfl, ?_⟩
  refine hK.out _ _ ⟨hHeld.1.drewN _, hHeld.2.1.drewN _, pw_below_drewN hHeld.2.2 _⟩ (fun hHeld => ?_)
  clear hK K
  refine norm_ (a' := ?_) ?_ ?_
  rotate_left
  · show Act.put _ (some 49) _ = _
    simp only [Act.put, List.setIfInBounds_toArray, List.set_cons_zero, List.set_cons_succ, i64_w, i32_w]
    rfl
  refine pure_ (i := 14) (N := some 50) (v := ?_) (a' := ?_) #[true, true, true, true, true, true, true, true, true, true, true, true, true, true, true, false, false, false, false, false, false, false, false, false, false, false, false, false, false, false, false, false, false, false] rfl rfl (by kernel_rfl) (fun _ _ _ h => h) (Or.inl ⟨by rfl, ?_⟩) ?_ ?_
  rotate_left
  · intro w'
    go_simp
    with_reducible rfl
  rotate_left
  · simp only [Act.put, List.setIfInBounds_toArray, List.set_cons_zero, List.set_cons_succ, i64_w, i32_w]
    rfl
  refine pure_ (i := 15) (N := some 51) (v := ?_) (a' := ?_) #[true, true, true, true, true, true, true, true, true, true, true, true, true, true, true, true, false, false, false, false, false, false, false, false, false, false, false, false, false, false, false, false, false, false] rfl rfl (by kernel_rfl) (fun _ _ _ h => h) (Or.inl ⟨by rfl, ?_⟩) ?_ ?_
  rotate_left
  · intro w'
    go_simp
    with_reducible rfl
  rotate_left
  · simp only [Act.put, List.setIfInBounds_toArray, List.set_cons_zero, List.set_cons_succ, i64_w, i32_w]
    rfl
  refine pure_ (i := 16) (N := some 52) (v := ?_) (a' := ?_) #[true, true, true, true, true, true, true, true, true, true, true, true, true, true, true, true, true, false, false, false, false, false, false, false, false, false, false, false, false, false, false, false, false, false] rfl rfl (by kernel_rfl) (fun _ _ _ h => h) (Or.inl ⟨by rfl, ?_⟩) ?_ ?_
  rotate_left
  · intro w'
    go_simp
    with_reducible rfl
  rotate_left
  · simp only [Act.put, List.setIfInBounds_toArray, List.set_cons_zero, List.set_cons_succ, i64_w, i32_w]
    rfl
  refine pure_ (i := 17) (N := some 53) (v := ?_) (a' := ?_) #[true, true, true, true, true, true, true, true, true, true, true, true, true, true, true, true, true, true, false, false, false, false, false, false, false, false, false, false, false, false, false, false, false, false] rfl rfl (by kernel_rfl) (fun _ _ _ h => h) (Or.inl ⟨by rfl, ?_⟩) ?_ ?_
  rotate_left
  · intro w'
    go_simp
    with_reducible rfl
  rotate_left
  · simp only [Act.put, List.setIfInBounds_toArray, List.set_cons_zero, List.set_cons_succ, i64_w, i32_w]
    rfl
  refine pure_ (i := 18) (N := some 54) (v := ?_) (a' := ?_) #[true, true, true, true, true, true, true, true, true, true, true, true, true, true, true, true, true, true, true, false, false, false, false, false, false, false, false, false, false, false, false, false, false, false] rfl rfl (by kernel_rfl) (fun _ _ _ h => h) (Or.inl ⟨by rfl, ?_⟩) ?_ ?_
  rotate_left
  · intro w'
    go_simp
    with_reducible rfl
  rotate_left
  · simp only [Act.put, List.setIfInBounds_toArray, List.set_cons_zero, List.set_cons_succ, i64_w, i32_w]
    rfl
  refine take_ (i := 19) (N := some 55) (v := ?_) (a' := ?_) #[true, true, true, true, true, true, true, true, true, true, true, true, true, true, true, true, true, true, true, true, false, false, false, false, false, false, false, false, false, false, false, false, false, false] rfl rfl (by kernel_rfl) (fun _ _ _ h => h) (Or.inl ⟨by rfl, ?_⟩) hHeld ?_ ?_
  rotate_left
  · rintro w' ⟨s0, s1, s2⟩
    have hr_ := s0.reads HCL.out.symm (by have := HZB.out; omega)
    have hcv_ := string_of_reads (P := Tryd.prog) Tryd.underlying26 Tryd.underlying5 Tryd.underlying9 hr_ (c := cap)
    rw [HC.out] at hcv_
    go_simp
    with_reducible rfl
  rotate_left
  · simp only [Act.put, List.setIfInBounds_toArray, List.set_cons_zero, List.set_cons_succ, i64_w, i32_w]
    rfl
  refine pure_ (i := 21) (N := some 57) (v := ?_) (a' := ?_) #[true, true, true, true, true, true, true, true, true, true, true, true, true, true, true, true, true, true, true, true, false, true, false, false, false, false, false, false, false, false, false, false, false, false] rfl rfl (by kernel_rfl) (fun _ _ _ h => h) (Or.inl ⟨by rfl, ?_⟩) ?_ ?_
  rotate_left
  · intro w'
    go_simp
    with_reducible rfl
  rotate_left
  · simp only [Act.put, List.setIfInBounds_toArray, List.set_cons_zero, List.set_cons_succ, i64_w, i32_w]
    rfl
  refine take_ (i := 22) (N := some 58) (v := ?_) (a' := ?_) #[true, true, true, true, true, true, true, true, true, true, true, true, true, true, true, true, true, true, true, true, false, true, true, false, false, false, false, false, false, false, false, false, false, false] rfl rfl (by kernel_rfl) (fun _ _ _ h => h) (Or.inl ⟨by rfl, ?_⟩) hHeld ?_ ?_
  rotate_left
  · rintro w' ⟨s0, s1, s2⟩
    have hc_ : w'.cell? ⟨g5, 1, none⟩ = some (.int .u8 q) := s1.cell 1 (by simp)
    go_simp
    with_reducible rfl
  rotate_left
  · simp only [Act.put, List.setIfInBounds_toArray, List.set_cons_zero, List.set_cons_succ, i64_w, i32_w]
    rfl
  refine pure_ (i := 23) (N := some 59) (v := ?_) (a' := ?_) #[true, true, true, true, true, true, true, true, true, true, true, true, true, true, true, true, true, true, true, true, false, true, true, true, false, false, false, false, false, false, false, false, false, false] rfl rfl (by kernel_rfl) (fun _ _ _ h => h) (Or.inl ⟨by rfl, ?_⟩) ?_ ?_
  rotate_left
  · intro w'
    go_simp
    with_reducible rfl
  rotate_left
  · simp only [Act.put, List.setIfInBounds_toArray, List.set_cons_zero, List.set_cons_succ, i64_w, i32_w]
    rfl
  refine one_ (i := 20) (N := some 56) #[true, true, true, true, true, true, true, true, true, true, true, true, true, true, true, true, true, true, true, true, true, true, true, true, false, false, false, false, false, false, false, false, false, false] rfl rfl (by kernel_rfl) (by decide) (fun K hK => ?_)
  refine goes_ Tryd.func11 (by kernel_rfl) rfl #[.string z, .string C] (by rfl) rfl rfl (by simp only [List.map_toArray, List.map_cons, List.map_nil]; rfl) ?_
  with_reducible refine (hmac_Same.calls 500 z C _ _ F3.out).mono ?_
  rintro e w' ⟨rfl, ⟨nd, rfl⟩⟩
  refine ⟨_, rfl, ?_⟩
  refine hK.out _ _ ⟨hHeld.1.drewN _, hHeld.2.1.drewN _, pw_below_drewN hHeld.2.2 _⟩ (fun hHeld => ?_)
  clear hK K
  refine norm_ (a' := ?_) ?_ ?_
  rotate_left
  · show Act.put _ (some 56) _ = _
    simp only [Act.put, List.setIfInBounds_toArray, List.set_cons_zero, List.set_cons_succ, i64_w, i32_w]
    rfl
  refine pure_ (i := 24) (N := some 60) (v := ?_) (a' := ?_) #[true, true, true, true, true, true, true, true, true, true, true, true, true, true, true, true, true, true, true, true, true, true, true, true, true, false, false, false, false, false, false, false, false, false] rfl rfl (by kernel_rfl) (fun _ _ _ h => h) (Or.inl ⟨by rfl, ?_⟩) ?_ ?_
  rotate_left
  · intro w'
    go_simp
    with_reducible rfl
  rotate_left
  · simp only [Act.put, List.setIfInBounds_toArray, List.set_cons_zero, List.set_cons_succ, i64_w, i32_w]
    rfl
  refine pure_ (i := 25) (N := some 61) (v := ?_) (a' := ?_) #[true, true, true, true, true, true, true, true, true, true, true, true, true, true, true, true, true, true, true, true, true, true, true, true, true, true, false, false, false, false, false, false, false, false] rfl rfl (by kernel_rfl) (fun _ _ _ h => h) (Or.inl ⟨by rfl, ?_⟩) ?_ ?_
  rotate_left
  · intro w'
    go_simp
    with_reducible rfl
  rotate_left
  · simp only [Act.put, List.setIfInBounds_toArray, List.set_cons_zero, List.set_cons_succ, i64_w, i32_w]
    rfl
  refine pure_ (i := 26) (N := some 62) (v := ?_) (a' := ?_) #[true, true, true, true, true, true, true, true, true, true, true, true, true, true, true, true, true, true, true, true, true, true, true, true, true, true, true, false, false, false, false, false, false, false] rfl rfl (by kernel_rfl) (fun _ _ _ h => h) (Or.inl ⟨by rfl, ?_⟩) ?_ ?_
  rotate_left
  · intro w'
    go_simp
    with_reducible rfl
  rotate_left
  · simp only [Act.put, List.setIfInBounds_toArray, List.set_cons_zero, List.set_cons_succ, i64_w, i32_w]
    rfl
  refine pure_ (i := 27) (N := some 63) (v := ?_) (a' := ?_) #[true, true, true, true, true, true, true, true, true, true, true, true, true, true, true, true, true, true, true, true, true, true, true, true, true, true, true, true, false, false, false, false, false, false] rfl rfl (by kernel_rfl) (fun _ _ _ h => h) (Or.inl ⟨by rfl, ?_⟩) ?_ ?_
  rotate_left
  · intro w'
    go_simp
    with_reducible rfl
  rotate_left
  · simp only [Act.put, List.setIfInBounds_toArray, List.set_cons_zero, List.set_cons_succ, i64_w, i32_w]
    rfl
  refine pure_ (i := 28) (N := some 64) (v := ?_) (a' := ?_) #[true, true, true, true, true, true, true, true, true, true, true, true, true, true, true, true, true, true, true, true, true, true, true, true, true, true, true, true, true, false, false, false, false, false] rfl rfl (by kernel_rfl) (fun _ _ _ h => h) (Or.inl ⟨by rfl, ?_⟩) ?_ ?_
  rotate_left
  · intro w'
    go_simp
    with_reducible rfl
  rotate_left
  · simp only [Act.put, List.setIfInBounds_toArray, List.set_cons_zero, List.set_cons_succ, i64_w, i32_w]
    rfl
  refine pure_ (i := 29) (N := some 65) (v := ?_) (a' := ?_) #[true, true, true, true, true, true, true, true, true, true, true, true, true, true, true, true, true, true, true, true, true, true, true, true, true, true, true, true, true, true, false, false, false, false] rfl rfl (by kernel_rfl) (fun _ _ _ h => h) (Or.inl ⟨by rfl, ?_⟩) ?_ ?_
  rotate_left
  · intro w'
    go_simp
    with_reducible rfl
  rotate_left
  · simp only [Act.put, List.setIfInBounds_toArray, List.set_cons_zero, List.set_cons_succ, i64_w, i32_w]
    rfl
  refine one_ (i := 30) (N := some 66) #[true, true, true, true, true, true, true, true, true, true, true, true, true, true, true, true, true, true, true, true, true, true, true, true, true, true, true, true, true, true, true, false, false, false] rfl rfl (by kernel_rfl) (by decide) (fun K hK => ?_)
  refine goes_ Tryd.func11 (by kernel_rfl) rfl #[.string x, .string z] (by rfl) rfl rfl (by simp only [List.map_toArray, List.map_cons, List.map_nil]; rfl) ?_
  with_reducible refine (hmac_Same.calls 500 x z _ _ F4.out).mono ?_
  rintro e w' ⟨rfl, ⟨nd, rfl⟩⟩
  refine ⟨_, rfl, ?_⟩
  refine hK.out _ _ ⟨hHeld.1.drewN _, hHeld.2.1.drewN _, pw_below_drewN hHeld.2.2 _⟩ (fun hHeld => ?_)
  clear hK K
  refine norm_ (a' := ?_) ?_ ?_
  rotate_left
  · show Act.put _ (some 66) _ = _
    simp only [Act.put, List.setIfInBounds_toArray, List.set_cons_zero, List.set_cons_succ, i64_w, i32_w]
    rfl
  refine pure_ (i := 31) (N := some 67) (v := ?_) (a' := ?_) #[true, true, true, true, true, true, true, true, true, true, true, true, true, true, true, true, true, true, true, true, true, true, true, true, true, true, true, true, true, true, true, true, false, false] rfl rfl (by kernel_rfl) (fun _ _ _ h => h) (Or.inl ⟨by rfl, ?_⟩) ?_ ?_
  rotate_left
  · intro w'
    go_simp
    with_reducible rfl
  rotate_left
  · simp only [Act.put, List.setIfInBounds_toArray, List.set_cons_zero, List.set_cons_succ, i64_w, i32_w]
    rfl
  refine pure_ (i := 32) (N := some 68) (v := ?_) (a' := ?_) #[true, true, true, true, true, true, true, true, true, true, true, true, true, true, true, true, true, true, true, true, true, true, true, true, true, true, true, true, true, true, true, true, true, false] rfl rfl (by kernel_rfl) (fun _ _ _ h => h) (Or.inl ⟨by rfl, ?_⟩) ?_ ?_
  rotate_left
  · intro w'
    go_simp
    with_reducible rfl
  rotate_left
  · simp only [Act.put, List.setIfInBounds_toArray, List.set_cons_zero, List.set_cons_succ, i64_w, i32_w]
    rfl
  refine pure_ (i := 33) (N := some 6) (v := ?_) (a' := ?_) #[true, true, true, true, true, true, true, true, true, true, true, true, true, true, true, true, true, true, true, true, true, true, true, true, true, true, true, true, true, true, true, true, true, true] rfl rfl (by kernel_rfl) (fun _ _ _ h => h) (Or.inl ⟨by rfl, ?_⟩) ?_ ?_
  rotate_left
  · intro w'
    go_simp
    with_reducible rfl
  rotate_left
  · simp only [Act.put, List.setIfInBounds_toArray, List.set_cons_zero, List.set_cons_succ, i64_w, i32_w]
    rfl
  refine done_ (by kernel_rfl) ?_

  go_wp2
  go_ret
  exact ⟨rfl, hHeld.2.2⟩
end Go.Proofs.YticmmdbmpepmkaaDoor.HmS
