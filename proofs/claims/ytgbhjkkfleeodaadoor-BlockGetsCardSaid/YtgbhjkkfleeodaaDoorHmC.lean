import Derived.Test.YtgbhjkkfleeodaaDoorHmB
namespace Go.Proofs.YtgbhjkkfleeodaaDoor.Hm
open Go.RowKit Go.Proofs.YtgbhjkkfleeodaaDoorW.PrintWords Go.Proofs.YtgbhjkkfleeodaaDoorW.PrintLast Go.Proofs.YtgbhjkkfleeodaaDoorW.PrintMore Go.Proofs.YtgbhjkkfleeodaaDoor.XA Go.Proofs.YtgbhjkkfleeodaaDoor.XB Go.Proofs.YtgbhjkkfleeodaaDoor.XL Go.Proofs.YtgbhjkkfleeodaaDoor.Sha
set_option linter.unusedVariables false
set_option linter.unusedSimpArgs false
set_option maxHeartbeats 8000000 in
set_option maxRecDepth 100000 in
theorem reftag_calls (key s : ByteArray) (hk : key.size ≤ 140737488351232) (hs : s.size + 64 ≤ 140737488351232) (w : World) :
    Calls Tryd.prog 12 #[.string key, .string s] w fun e w' => e = .returned (.string (tag key s)) ∧ Below w.heap.size w w' := by
  have HS := Aside0.mk hs
  have HKL := Aside0.mk hk
  have HB := Aside0.mk (Below.refl w.heap.size w)
  obtain ⟨K, hK⟩ : ∃ K, kk key = K := ⟨_, rfl⟩
  have hKs : K.size ≤ 64 := by rw [← hK]; exact kk_size key
  have HK := Aside0.mk hK
  clear hs hk hK
  by_cases hc : key.size > 64
  · have c1 : decide ((64 : Int) < (key.size : Int)) = true := decide_eq_true (by omega)
    have hdk : dig key = K := by rw [← HK.out, kk, if_pos hc]
    have HD0 := Aside0.mk hdk
    clear hdk hc
    go_enter Tryd.func12, Tryd.ntmps12
    go_wp2_with (go_at_call 27; with_reducible refine (ref_dig key HKL.out _).mono ?_; rintro e w1 ⟨rfl, hb⟩; rw [HD0.out]; have n0 := Aside0.mk (below_step HB.out hb); clear HB hb; have HB := n0; clear n0)
    go_loopw [5, 6, 7] (fun x5 x6 i wr => ∃ k : Nat, k ≤ 64 ∧ x5 = .string (strOfNums ((List.range k).map (xorL K 54))) ∧ x6 = .string (strOfNums ((List.range k).map (xorL K 92))) ∧ i = .int .i64 k ∧ Below w.heap.size w wr) (fun _ _ i _ => 64 - (intOf i).toNat)
    case atStart => exact ⟨0, by omega, by rw [str_nil]; rfl, by rw [str_nil]; rfl, rfl, HB.out⟩
    case round =>
      clear HB
      obtain ⟨k, hkk, rfl, rfl, rfl, hB⟩ := hrel
      have HB := Aside0.mk hB
      clear hB
      obtain ⟨x, hx⟩ : ∃ x, strOfNums ((List.range k).map (xorL K 54)) = x := ⟨_, rfl⟩
      obtain ⟨y, hy⟩ : ∃ y, strOfNums ((List.range k).map (xorL K 92)) = y := ⟨_, rfl⟩
      have hxs : x.size = k := by rw [← hx, strOfNums_size]; simp
      have hysz : y.size = k := by rw [← hy, strOfNums_size]; simp
      simp only [hx, hy]
      have HX := Aside0.mk hx
      have HY := Aside0.mk hy
      clear hx hy
      by_cases hlt : k < 64
      · have q0 : decide ((k : Int) < 64) = true := decide_eq_true (by omega)
        by_cases hkK : k < K.size
        · have q1 : decide ((k : Int) < (K.size : Int)) = true := decide_eq_true (by omega)
          have z0 : (0 ≤ (k : Int)) = True := eq_true (by omega)
          have z1 : ((k : Int) < (K.size : Int)) = True := eq_true (by omega)
          obtain ⟨v, hv⟩ : ∃ v, bt K (k : Int) = v := ⟨_, rfl⟩
          have hxb : ∀ h : k < K.size, ((K[k]'h).toNat : Int) = v := fun h => by
            rw [← hv]
            exact bt_at K (k : Int) h
          have z2 : (k < K.size) = True := eq_true (by omega)
          have HV := Aside0.mk hv
          clear hv
          obtain ⟨ya, hya⟩ : ∃ ys : List Int, ys = [Go.bits .xor .u8 v 54] := ⟨_, rfl⟩
          obtain ⟨yb, hyb⟩ : ∃ ys : List Int, ys = [Go.bits .xor .u8 v 92] := ⟨_, rfl⟩
          have sa : (strOfNums ya).size = 1 := by rw [strOfNums_size, hya]; rfl
          have sb : (strOfNums yb).size = 1 := by rw [strOfNums_size, hyb]; rfl
          have b1 : (x.size + (strOfNums ya).size ≤ 9223372036854775807) = True := eq_true (by omega)
          have b2 : (9223372036854775807 < x.size + (strOfNums ya).size) = False := eq_false (by omega)
          have b3 : (y.size + (strOfNums yb).size ≤ 9223372036854775807) = True := eq_true (by omega)
          have b4 : (9223372036854775807 < y.size + (strOfNums yb).size) = False := eq_false (by omega)
          have NA := Aside0.mk hya
          have NB := Aside0.mk hyb
          clear hya hyb sa sb hxs hysz
          go_wp2_with (first
            | ((with_reducible refine gate_dst (N := 28) rfl ?_); refine Kd.R_lit (Kd.int .u8) _ 5 ?hg (N := 28) ?hd (xs := ([Go.bits .xor .u8 v 54] : List Int)) (inner := [.int .u8 (Go.bits .xor .u8 v 54)]) (ok := fun _ => True) (okp := fun _ => True) ?hr ?hp (fun _ hk => hk) trivial (Below.refl _ _) (Nat.le_refl _) (by simp) ?_; (case hd => rfl); (case hg => rfl); (case hr => first | (go_simp; done) | (go_simp; rfl)); (case hp => exact (Reps.one (show Kd.M (Kd.int .u8) _ _ _ (Go.bits .xor .u8 v 54) [.int .u8 (Go.bits .xor .u8 v 54)] from rfl) (Reps.none _ _))); intro v1 w7 ho8 hb hg_ hnew_; clear hg_ hnew_; rw [← NA.out] at ho8; have n0_ := Aside0.mk (Kd.R_lower ho8 HB.out.size); have n1_ := Aside0.mk (below_step HB.out hb); clear HB; have HOA := n0_; have HB := n1_; clear n0_ n1_; clear hb ho8; have hcva := own_string (P := Tryd.prog) Tryd.underlying34 Tryd.underlying5 Tryd.underlying9 (Kd.own_of_R HOA.out))
            | ((with_reducible refine gate_dst (N := 34) rfl ?_); refine Kd.R_lit (Kd.int .u8) _ 5 ?hg (N := 34) ?hd (xs := ([Go.bits .xor .u8 v 92] : List Int)) (inner := [.int .u8 (Go.bits .xor .u8 v 92)]) (ok := fun _ => True) (okp := fun _ => True) ?hr ?hp (fun _ hk => hk) trivial (Below.refl _ _) (Nat.le_refl _) (by simp) ?_; (case hd => rfl); (case hg => rfl); (case hr => first | (go_simp; done) | (go_simp; rfl)); (case hp => exact (Reps.one (show Kd.M (Kd.int .u8) _ _ _ (Go.bits .xor .u8 v 92) [.int .u8 (Go.bits .xor .u8 v 92)] from rfl) (Reps.none _ _))); intro v1 w7 ho8 hb hg_ hnew_; clear hg_ hnew_; rw [← NB.out] at ho8; have n0_ := Aside0.mk (Kd.R_lower ho8 HB.out.size); have n1_ := Aside0.mk (below_step HB.out hb); clear HB; have HOB := n0_; have HB := n1_; clear n0_ n1_; clear hb ho8; have hcvb := own_string (P := Tryd.prog) Tryd.underlying34 Tryd.underlying5 Tryd.underlying9 (Kd.own_of_R HOB.out)))
          go_roundw
          case rel =>
            refine ⟨k + 1, by omega, ?_, ?_, by go_num, HB.out⟩
            · rw [List.range_succ, List.map_append, strOfNums_append, HX.out, NA.out, List.map_cons, List.map_nil, xorL, HV.out]
            · rw [List.range_succ, List.map_append, strOfNums_append, HY.out, NB.out, List.map_cons, List.map_nil, xorL, HV.out]
          case measure => simp [intOf]; omega
        · have q1 : decide ((k : Int) < (K.size : Int)) = false := decide_eq_false (by omega)
          have HV := Aside0.mk (bt_over K k (by omega))
          obtain ⟨ya, hya⟩ : ∃ ys : List Int, ys = [Go.bits .xor .u8 0 54] := ⟨_, rfl⟩
          obtain ⟨yb, hyb⟩ : ∃ ys : List Int, ys = [Go.bits .xor .u8 0 92] := ⟨_, rfl⟩
          have sa : (strOfNums ya).size = 1 := by rw [strOfNums_size, hya]; rfl
          have sb : (strOfNums yb).size = 1 := by rw [strOfNums_size, hyb]; rfl
          have b1 : (x.size + (strOfNums ya).size ≤ 9223372036854775807) = True := eq_true (by omega)
          have b2 : (9223372036854775807 < x.size + (strOfNums ya).size) = False := eq_false (by omega)
          have b3 : (y.size + (strOfNums yb).size ≤ 9223372036854775807) = True := eq_true (by omega)
          have b4 : (9223372036854775807 < y.size + (strOfNums yb).size) = False := eq_false (by omega)
          have NA := Aside0.mk hya
          have NB := Aside0.mk hyb
          clear hya hyb sa sb hxs hysz
          go_wp2_with (first
            | ((with_reducible refine gate_dst (N := 28) rfl ?_); refine Kd.R_lit (Kd.int .u8) _ 5 ?hg (N := 28) ?hd (xs := ([Go.bits .xor .u8 0 54] : List Int)) (inner := [.int .u8 (Go.bits .xor .u8 0 54)]) (ok := fun _ => True) (okp := fun _ => True) ?hr ?hp (fun _ hk => hk) trivial (Below.refl _ _) (Nat.le_refl _) (by simp) ?_; (case hd => rfl); (case hg => rfl); (case hr => first | (go_simp; done) | (go_simp; rfl)); (case hp => exact (Reps.one (show Kd.M (Kd.int .u8) _ _ _ (Go.bits .xor .u8 0 54) [.int .u8 (Go.bits .xor .u8 0 54)] from rfl) (Reps.none _ _))); intro v1 w7 ho8 hb hg_ hnew_; clear hg_ hnew_; rw [← NA.out] at ho8; have n0_ := Aside0.mk (Kd.R_lower ho8 HB.out.size); have n1_ := Aside0.mk (below_step HB.out hb); clear HB; have HOA := n0_; have HB := n1_; clear n0_ n1_; clear hb ho8; have hcva := own_string (P := Tryd.prog) Tryd.underlying34 Tryd.underlying5 Tryd.underlying9 (Kd.own_of_R HOA.out))
            | ((with_reducible refine gate_dst (N := 34) rfl ?_); refine Kd.R_lit (Kd.int .u8) _ 5 ?hg (N := 34) ?hd (xs := ([Go.bits .xor .u8 0 92] : List Int)) (inner := [.int .u8 (Go.bits .xor .u8 0 92)]) (ok := fun _ => True) (okp := fun _ => True) ?hr ?hp (fun _ hk => hk) trivial (Below.refl _ _) (Nat.le_refl _) (by simp) ?_; (case hd => rfl); (case hg => rfl); (case hr => first | (go_simp; done) | (go_simp; rfl)); (case hp => exact (Reps.one (show Kd.M (Kd.int .u8) _ _ _ (Go.bits .xor .u8 0 92) [.int .u8 (Go.bits .xor .u8 0 92)] from rfl) (Reps.none _ _))); intro v1 w7 ho8 hb hg_ hnew_; clear hg_ hnew_; rw [← NB.out] at ho8; have n0_ := Aside0.mk (Kd.R_lower ho8 HB.out.size); have n1_ := Aside0.mk (below_step HB.out hb); clear HB; have HOB := n0_; have HB := n1_; clear n0_ n1_; clear hb ho8; have hcvb := own_string (P := Tryd.prog) Tryd.underlying34 Tryd.underlying5 Tryd.underlying9 (Kd.own_of_R HOB.out)))
          go_roundw
          case rel =>
            refine ⟨k + 1, by omega, ?_, ?_, by go_num, HB.out⟩
            · rw [List.range_succ, List.map_append, strOfNums_append, HX.out, NA.out, List.map_cons, List.map_nil, xorL, HV.out]
            · rw [List.range_succ, List.map_append, strOfNums_append, HY.out, NB.out, List.map_cons, List.map_nil, xorL, HV.out]
          case measure => simp [intOf]; omega
      · have ek : k = 64 := by omega
        subst ek
        rw [show ((64 : Nat) : Int) = 64 from rfl]
        have hx2 : x = pd key 54 := by rw [← HX.out, pd, HK.out]; rfl
        have hy2 : y = pd key 92 := by rw [← HY.out, pd, HK.out]; rfl
        clear HX HY
        obtain ⟨d, hd⟩ : ∃ d, dig (x ++ s) = d := ⟨_, rfl⟩
        have hds : d.size = 32 := by rw [← hd]; exact dig_size _
        have hss := HS.out
        have b1 : (x.size + s.size ≤ 9223372036854775807) = True := eq_true (by omega)
        have b2 : (9223372036854775807 < x.size + s.size) = False := eq_false (by omega)
        have b3 : (y.size + d.size ≤ 9223372036854775807) = True := eq_true (by omega)
        have b4 : (9223372036854775807 < y.size + d.size) = False := eq_false (by omega)
        have S1 := Aside0.mk (show (x ++ s).size ≤ 140737488351232 by rw [ByteArray.size_append]; omega)
        have S2 := Aside0.mk (show (y ++ d).size ≤ 140737488351232 by rw [ByteArray.size_append]; omega)
        have HT := Aside0.mk (show tag key s = dig (y ++ d) by rw [tag, ← hx2, ← hy2, hd])
        have HD := Aside0.mk hd
        clear hd hds hss hxs hysz hx2 hy2
        go_wp2_with (first
          | (go_at_call 27; with_reducible refine (ref_dig (x ++ s) S1.out _).mono ?_; rintro e w1 ⟨rfl, hb⟩; rw [HD.out]; have n0 := Aside0.mk (below_step HB.out hb); clear HB hb; have HB := n0; clear n0)
          | (go_at_call 27; with_reducible refine (ref_dig (y ++ d) S2.out _).mono ?_; rintro e w2 ⟨rfl, hb⟩; have n0 := Aside0.mk (below_step HB.out hb); clear HB hb; have HB := n0; clear n0))
        go_ret
        exact ⟨by rw [HT.out]; rfl, HB.out⟩
  · have c1 : decide ((64 : Int) < (key.size : Int)) = false := decide_eq_false (by omega)
    have hdk : key = K := by rw [← HK.out, kk, if_neg hc]
    subst hdk
    clear hc
    go_enter Tryd.func12, Tryd.ntmps12
    go_wp2
    go_loopw [5, 6, 7] (fun x5 x6 i wr => ∃ k : Nat, k ≤ 64 ∧ x5 = .string (strOfNums ((List.range k).map (xorL key 54))) ∧ x6 = .string (strOfNums ((List.range k).map (xorL key 92))) ∧ i = .int .i64 k ∧ Below w.heap.size w wr) (fun _ _ i _ => 64 - (intOf i).toNat)
    case atStart => exact ⟨0, by omega, by rw [str_nil]; rfl, by rw [str_nil]; rfl, rfl, HB.out⟩
    case round =>
      clear HB
      obtain ⟨k, hkk, rfl, rfl, rfl, hB⟩ := hrel
      have HB := Aside0.mk hB
      clear hB
      obtain ⟨x, hx⟩ : ∃ x, strOfNums ((List.range k).map (xorL key 54)) = x := ⟨_, rfl⟩
      obtain ⟨y, hy⟩ : ∃ y, strOfNums ((List.range k).map (xorL key 92)) = y := ⟨_, rfl⟩
      have hxs : x.size = k := by rw [← hx, strOfNums_size]; simp
      have hysz : y.size = k := by rw [← hy, strOfNums_size]; simp
      simp only [hx, hy]
      have HX := Aside0.mk hx
      have HY := Aside0.mk hy
      clear hx hy
      by_cases hlt : k < 64
      · have q0 : decide ((k : Int) < 64) = true := decide_eq_true (by omega)
        by_cases hkK : k < key.size
        · have q1 : decide ((k : Int) < (key.size : Int)) = true := decide_eq_true (by omega)
          have z0 : (0 ≤ (k : Int)) = True := eq_true (by omega)
          have z1 : ((k : Int) < (key.size : Int)) = True := eq_true (by omega)
          obtain ⟨v, hv⟩ : ∃ v, bt key (k : Int) = v := ⟨_, rfl⟩
          have hxb : ∀ h : k < key.size, ((key[k]'h).toNat : Int) = v := fun h => by
            rw [← hv]
            exact bt_at key (k : Int) h
          have z2 : (k < key.size) = True := eq_true (by omega)
          have HV := Aside0.mk hv
          clear hv
          obtain ⟨ya, hya⟩ : ∃ ys : List Int, ys = [Go.bits .xor .u8 v 54] := ⟨_, rfl⟩
          obtain ⟨yb, hyb⟩ : ∃ ys : List Int, ys = [Go.bits .xor .u8 v 92] := ⟨_, rfl⟩
          have sa : (strOfNums ya).size = 1 := by rw [strOfNums_size, hya]; rfl
          have sb : (strOfNums yb).size = 1 := by rw [strOfNums_size, hyb]; rfl
          have b1 : (x.size + (strOfNums ya).size ≤ 9223372036854775807) = True := eq_true (by omega)
          have b2 : (9223372036854775807 < x.size + (strOfNums ya).size) = False := eq_false (by omega)
          have b3 : (y.size + (strOfNums yb).size ≤ 9223372036854775807) = True := eq_true (by omega)
          have b4 : (9223372036854775807 < y.size + (strOfNums yb).size) = False := eq_false (by omega)
          have NA := Aside0.mk hya
          have NB := Aside0.mk hyb
          clear hya hyb sa sb hxs hysz
          go_wp2_with (first
            | ((with_reducible refine gate_dst (N := 28) rfl ?_); refine Kd.R_lit (Kd.int .u8) _ 5 ?hg (N := 28) ?hd (xs := ([Go.bits .xor .u8 v 54] : List Int)) (inner := [.int .u8 (Go.bits .xor .u8 v 54)]) (ok := fun _ => True) (okp := fun _ => True) ?hr ?hp (fun _ hk => hk) trivial (Below.refl _ _) (Nat.le_refl _) (by simp) ?_; (case hd => rfl); (case hg => rfl); (case hr => first | (go_simp; done) | (go_simp; rfl)); (case hp => exact (Reps.one (show Kd.M (Kd.int .u8) _ _ _ (Go.bits .xor .u8 v 54) [.int .u8 (Go.bits .xor .u8 v 54)] from rfl) (Reps.none _ _))); intro v1 w7 ho8 hb hg_ hnew_; clear hg_ hnew_; rw [← NA.out] at ho8; have n0_ := Aside0.mk (Kd.R_lower ho8 HB.out.size); have n1_ := Aside0.mk (below_step HB.out hb); clear HB; have HOA := n0_; have HB := n1_; clear n0_ n1_; clear hb ho8; have hcva := own_string (P := Tryd.prog) Tryd.underlying34 Tryd.underlying5 Tryd.underlying9 (Kd.own_of_R HOA.out))
            | ((with_reducible refine gate_dst (N := 34) rfl ?_); refine Kd.R_lit (Kd.int .u8) _ 5 ?hg (N := 34) ?hd (xs := ([Go.bits .xor .u8 v 92] : List Int)) (inner := [.int .u8 (Go.bits .xor .u8 v 92)]) (ok := fun _ => True) (okp := fun _ => True) ?hr ?hp (fun _ hk => hk) trivial (Below.refl _ _) (Nat.le_refl _) (by simp) ?_; (case hd => rfl); (case hg => rfl); (case hr => first | (go_simp; done) | (go_simp; rfl)); (case hp => exact (Reps.one (show Kd.M (Kd.int .u8) _ _ _ (Go.bits .xor .u8 v 92) [.int .u8 (Go.bits .xor .u8 v 92)] from rfl) (Reps.none _ _))); intro v1 w7 ho8 hb hg_ hnew_; clear hg_ hnew_; rw [← NB.out] at ho8; have n0_ := Aside0.mk (Kd.R_lower ho8 HB.out.size); have n1_ := Aside0.mk (below_step HB.out hb); clear HB; have HOB := n0_; have HB := n1_; clear n0_ n1_; clear hb ho8; have hcvb := own_string (P := Tryd.prog) Tryd.underlying34 Tryd.underlying5 Tryd.underlying9 (Kd.own_of_R HOB.out)))
          go_roundw
          case rel =>
            refine ⟨k + 1, by omega, ?_, ?_, by go_num, HB.out⟩
            · rw [List.range_succ, List.map_append, strOfNums_append, HX.out, NA.out, List.map_cons, List.map_nil, xorL, HV.out]
            · rw [List.range_succ, List.map_append, strOfNums_append, HY.out, NB.out, List.map_cons, List.map_nil, xorL, HV.out]
          case measure => simp [intOf]; omega
        · have q1 : decide ((k : Int) < (key.size : Int)) = false := decide_eq_false (by omega)
          have HV := Aside0.mk (bt_over key k (by omega))
          obtain ⟨ya, hya⟩ : ∃ ys : List Int, ys = [Go.bits .xor .u8 0 54] := ⟨_, rfl⟩
          obtain ⟨yb, hyb⟩ : ∃ ys : List Int, ys = [Go.bits .xor .u8 0 92] := ⟨_, rfl⟩
          have sa : (strOfNums ya).size = 1 := by rw [strOfNums_size, hya]; rfl
          have sb : (strOfNums yb).size = 1 := by rw [strOfNums_size, hyb]; rfl
          have b1 : (x.size + (strOfNums ya).size ≤ 9223372036854775807) = True := eq_true (by omega)
          have b2 : (9223372036854775807 < x.size + (strOfNums ya).size) = False := eq_false (by omega)
          have b3 : (y.size + (strOfNums yb).size ≤ 9223372036854775807) = True := eq_true (by omega)
          have b4 : (9223372036854775807 < y.size + (strOfNums yb).size) = False := eq_false (by omega)
          have NA := Aside0.mk hya
          have NB := Aside0.mk hyb
          clear hya hyb sa sb hxs hysz
          go_wp2_with (first
            | ((with_reducible refine gate_dst (N := 28) rfl ?_); refine Kd.R_lit (Kd.int .u8) _ 5 ?hg (N := 28) ?hd (xs := ([Go.bits .xor .u8 0 54] : List Int)) (inner := [.int .u8 (Go.bits .xor .u8 0 54)]) (ok := fun _ => True) (okp := fun _ => True) ?hr ?hp (fun _ hk => hk) trivial (Below.refl _ _) (Nat.le_refl _) (by simp) ?_; (case hd => rfl); (case hg => rfl); (case hr => first | (go_simp; done) | (go_simp; rfl)); (case hp => exact (Reps.one (show Kd.M (Kd.int .u8) _ _ _ (Go.bits .xor .u8 0 54) [.int .u8 (Go.bits .xor .u8 0 54)] from rfl) (Reps.none _ _))); intro v1 w7 ho8 hb hg_ hnew_; clear hg_ hnew_; rw [← NA.out] at ho8; have n0_ := Aside0.mk (Kd.R_lower ho8 HB.out.size); have n1_ := Aside0.mk (below_step HB.out hb); clear HB; have HOA := n0_; have HB := n1_; clear n0_ n1_; clear hb ho8; have hcva := own_string (P := Tryd.prog) Tryd.underlying34 Tryd.underlying5 Tryd.underlying9 (Kd.own_of_R HOA.out))
            | ((with_reducible refine gate_dst (N := 34) rfl ?_); refine Kd.R_lit (Kd.int .u8) _ 5 ?hg (N := 34) ?hd (xs := ([Go.bits .xor .u8 0 92] : List Int)) (inner := [.int .u8 (Go.bits .xor .u8 0 92)]) (ok := fun _ => True) (okp := fun _ => True) ?hr ?hp (fun _ hk => hk) trivial (Below.refl _ _) (Nat.le_refl _) (by simp) ?_; (case hd => rfl); (case hg => rfl); (case hr => first | (go_simp; done) | (go_simp; rfl)); (case hp => exact (Reps.one (show Kd.M (Kd.int .u8) _ _ _ (Go.bits .xor .u8 0 92) [.int .u8 (Go.bits .xor .u8 0 92)] from rfl) (Reps.none _ _))); intro v1 w7 ho8 hb hg_ hnew_; clear hg_ hnew_; rw [← NB.out] at ho8; have n0_ := Aside0.mk (Kd.R_lower ho8 HB.out.size); have n1_ := Aside0.mk (below_step HB.out hb); clear HB; have HOB := n0_; have HB := n1_; clear n0_ n1_; clear hb ho8; have hcvb := own_string (P := Tryd.prog) Tryd.underlying34 Tryd.underlying5 Tryd.underlying9 (Kd.own_of_R HOB.out)))
          go_roundw
          case rel =>
            refine ⟨k + 1, by omega, ?_, ?_, by go_num, HB.out⟩
            · rw [List.range_succ, List.map_append, strOfNums_append, HX.out, NA.out, List.map_cons, List.map_nil, xorL, HV.out]
            · rw [List.range_succ, List.map_append, strOfNums_append, HY.out, NB.out, List.map_cons, List.map_nil, xorL, HV.out]
          case measure => simp [intOf]; omega
      · have ek : k = 64 := by omega
        subst ek
        rw [show ((64 : Nat) : Int) = 64 from rfl]
        have hx2 : x = pd key 54 := by rw [← HX.out, pd, HK.out]; rfl
        have hy2 : y = pd key 92 := by rw [← HY.out, pd, HK.out]; rfl
        clear HX HY
        obtain ⟨d, hd⟩ : ∃ d, dig (x ++ s) = d := ⟨_, rfl⟩
        have hds : d.size = 32 := by rw [← hd]; exact dig_size _
        have hss := HS.out
        have b1 : (x.size + s.size ≤ 9223372036854775807) = True := eq_true (by omega)
        have b2 : (9223372036854775807 < x.size + s.size) = False := eq_false (by omega)
        have b3 : (y.size + d.size ≤ 9223372036854775807) = True := eq_true (by omega)
        have b4 : (9223372036854775807 < y.size + d.size) = False := eq_false (by omega)
        have S1 := Aside0.mk (show (x ++ s).size ≤ 140737488351232 by rw [ByteArray.size_append]; omega)
        have S2 := Aside0.mk (show (y ++ d).size ≤ 140737488351232 by rw [ByteArray.size_append]; omega)
        have HT := Aside0.mk (show tag key s = dig (y ++ d) by rw [tag, ← hx2, ← hy2, hd])
        have HD := Aside0.mk hd
        clear hd hds hss hxs hysz hx2 hy2
        go_wp2_with (first
          | (go_at_call 27; with_reducible refine (ref_dig (x ++ s) S1.out _).mono ?_; rintro e w1 ⟨rfl, hb⟩; rw [HD.out]; have n0 := Aside0.mk (below_step HB.out hb); clear HB hb; have HB := n0; clear n0)
          | (go_at_call 27; with_reducible refine (ref_dig (y ++ d) S2.out _).mono ?_; rintro e w2 ⟨rfl, hb⟩; have n0 := Aside0.mk (below_step HB.out hb); clear HB hb; have HB := n0; clear n0))
        go_ret
        exact ⟨by rw [HT.out]; rfl, HB.out⟩
end Go.Proofs.YtgbhjkkfleeodaaDoor.Hm
