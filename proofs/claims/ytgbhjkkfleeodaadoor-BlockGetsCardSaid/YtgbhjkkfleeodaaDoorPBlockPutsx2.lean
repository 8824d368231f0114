import Derived.Test.YtgbhjkkfleeodaaDoorPBlockPutsx0
import Derived.Test.YtgbhjkkfleeodaaDoorXB
namespace Go.Proofs.YtgbhjkkfleeodaaDoor.PBlockPuts
open Go.RowKit Go.Proofs.YtgbhjkkfleeodaaDoorW.PrintWords Go.Proofs.YtgbhjkkfleeodaaDoorW.PrintLast Go.Proofs.YtgbhjkkfleeodaaDoorW.PrintMore
open Go.Proofs.YtgbhjkkfleeodaaDoorW.PrintWords renaming blk_drewN → zN, blk_drew → zD, blk_alloc → zA, blk_cell → zC, blk_frozen → zF, below_set → zS, below_alloc → zL, below_drew1 → zW, pw_below_drewN → zP, blk_below → zB, keep_drewN → zK
open Go.Proofs.YtgbhjkkfleeodaaDoorW.PrintWords.Aside0 renaming mk → zM
open List renaming setIfInBounds_toArray → zT, set_cons_zero → zZ, set_cons_succ → zU, length_drop → zV, length_take → zX, map_toArray → zY
attribute [local go_sem] max2_int min2_int max_two min_two max_three min_three max_four min_four
set_option linter.unusedVariables false
set_option linter.unusedSimpArgs false
abbrev zb2_0 : Array Bool := #[false, false, false, false, false, false, false, false, false, false, false]
abbrev zb2_1 : Array Bool := #[true, false, false, false, false, false, false, false, false, false, false]
abbrev zb2_2 : Array Bool := #[true, false, true, false, false, false, false, false, false, false, false]
abbrev zb2_3 : Array Bool := #[true, false, true, true, false, false, false, false, false, false, false]
abbrev zb2_4 : Array Bool := #[true, false, true, true, false, true, false, false, false, false, false]
abbrev zb2_5 : Array Bool := #[true, false, true, true, false, true, false, true, false, false, false]
abbrev zb2_6 : Array Bool := #[true, true, true, true, false, true, false, true, false, false, false]
abbrev zb2_7 : Array Bool := #[true, true, true, true, true, true, false, true, false, false, false]
abbrev zb2_8 : Array Bool := #[true, true, true, true, true, true, true, true, false, false, false]
abbrev zb2_9 : Array Bool := #[true, true, true, true, true, true, true, true, true, false, false]
abbrev zb2_10 : Array Bool := #[true, true, true, true, true, true, true, true, true, true, false]
abbrev zb2_11 : Array Bool := #[true, true, true, true, true, true, true, true, true, true, true]
def code_Small.f (a0 : Int) : Option (ByteArray) := some (strOfNums (([(a0 / 16777216) % 256, (a0 / 65536) % 256, (a0 / 256) % 256, (a0) % 256] : List Int)))
set_option maxHeartbeats 8000000 in
set_option maxRecDepth 100000 in
theorem code_Small.calls (a0 : Int) (r : ByteArray) (w : World) (h : code_Small.f a0 = some r) :
  Calls Tryd.prog 14 #[.int .u32 a0] w fun e w' => e = .returned (.string r) ∧ Below w.heap.size w w' := by
 have HB := zM (Below.refl w.heap.size w)
 have H : (some (strOfNums (([(a0 / 16777216) % 256, (a0 / 65536) % 256, (a0 / 256) % 256, (a0) % 256] : List Int)))) = some r := h
 clear h
 obtain ⟨y101, hy101⟩ : ∃ y_ : List Int, y_ = (([(a0 / 16777216) % 256, (a0 / 65536) % 256, (a0 / 256) % 256, (a0) % 256] : List Int)) := ⟨_, rfl⟩
 replace H : (some (strOfNums y101)) = some r := by first | (rw [hy101]; with_reducible exact H) | (have H2_ := (Option.bind_some _ _).symm.trans H; rw [hy101]; with_reducible exact H2_) | (have H2_ := (Option.bind_some _ _).symm.trans H; with_reducible exact H2_) | with_reducible exact H | (rw [hy101]; exact H) | exact H
 have Ny101 := zM hy101
 clear hy101
 obtain rfl := Option.some.inj H
 go_enter Tryd.func14, Tryd.ntmps14
 go_wp2_with (first | ((with_reducible refine gate_dst (N := 14) rfl ?_); refine Kd.R_lit (Kd.int .u8) _ 5 ?hg (N := 14) ?hd (xs := ([(a0 / 16777216) % 256, (a0 / 65536) % 256, (a0 / 256) % 256, (a0) % 256] : List Int)) (inner := [.int .u8 ((a0 / 16777216) % 256), .int .u8 ((a0 / 65536) % 256), .int .u8 ((a0 / 256) % 256), .int .u8 ((a0) % 256)]) (ok := fun _ => True) (okp := fun _ => True) ?hr ?hp (fun _ hk => hk) trivial (Below.refl _ _) (Nat.le_refl _) (by simp) ?_; (case hd => rfl); (case hg => rfl); (case hr => first | (go_simp; done) | (go_simp; rfl)); (case hp => exact (Reps.one (show Kd.M (Kd.int .u8) _ _ _ ((a0 / 16777216) % 256) [.int .u8 ((a0 / 16777216) % 256)] from rfl) (Reps.one (show Kd.M (Kd.int .u8) _ _ _ ((a0 / 65536) % 256) [.int .u8 ((a0 / 65536) % 256)] from rfl) (Reps.one (show Kd.M (Kd.int .u8) _ _ _ ((a0 / 256) % 256) [.int .u8 ((a0 / 256) % 256)] from rfl) (Reps.one (show Kd.M (Kd.int .u8) _ _ _ ((a0) % 256) [.int .u8 ((a0) % 256)] from rfl) (Reps.none _ _)))))); intro v102 w2 ho3 hb hg_ hnew_; clear hg_ hnew_; (first | rw [← Ny101.out] at ho3 | (simp only [Int.reduceToNat] at ho3; rw [← Ny101.out] at ho3)); have n0_ := zM (Kd.R_lower ho3 (below_size (by repeat (first | (with_reducible first | exact HB.out | apply zL | apply zP | apply zW) | exact HB.out)))); have n1_ := zM (below_step (by repeat (first | (with_reducible first | exact HB.out | apply zL | apply zP | apply zW) | exact HB.out)) hb); clear HB; have HO103 := n0_; have HB := n1_; clear n0_ n1_; clear hb ho3; have hcv4 := own_string (P := Tryd.prog) Tryd.underlying34 Tryd.underlying5 Tryd.underlying9 (Kd.own_of_R HO103.out)))
 go_ret
 exact ⟨by first | rfl | (simp [errW_none, errW_some] <;> rfl) | (simp [*, errW_none, errW_some] <;> rfl), by repeat (first | (with_reducible first | exact HB.out | apply zL | apply zP | apply zW) | exact HB.out)⟩
def strings_Repeat.f (a0 : ByteArray) (a1 : Int) : Option ByteArray := if 0 ≤ a1 ∧ a1 ≤ 9223372036854775807 ∧ (a0.size : Int) * a1 ≤ 140737488355328 then some ⟨(Go.Lib.repeatL a0.data.toList a1.toNat).toArray⟩ else none
theorem strings_Repeat.calls (a0 : ByteArray) (a1 : Int) (r : ByteArray) (w : World) (h : strings_Repeat.f a0 a1 = some r) :
  Calls Tryd.prog 15 #[.string a0, .int .i64 a1] w fun e w' => e = .returned (.string r) ∧ Below w.heap.size w w' := by
 unfold strings_Repeat.f at h
 by_cases c : 0 ≤ a1 ∧ a1 ≤ 9223372036854775807 ∧ (a0.size : Int) * a1 ≤ 140737488355328
 ·rw [if_pos c] at h
  obtain rfl := Option.some.inj h
  obtain ⟨m, rfl⟩ : ∃ m : Nat, a1 = m := ⟨a1.toNat, by omega⟩
  rw [Int.toNat_natCast]
  exact Tryd.strings_Repeat a0 m w (by omega) (Int.ofNat_le.mp (by rw [Int.natCast_mul]; exact c.2.2))
 ·rw [if_neg c] at h
  exact absurd h (by simp)
def code_Big.f (a0 : Int) : Option (ByteArray) := (code_Small.f ((a0 / 4294967296) % 4294967296)).bind fun t104 => ((code_Small.f ((a0) % 4294967296)).bind fun t105 => (if t104.size + t105.size ≤ 9223372036854775807 then (some (t104 ++ t105)) else (none)))
set_option maxHeartbeats 8000000 in
set_option maxRecDepth 100000 in
theorem code_Big.calls (a0 : Int) (r : ByteArray) (w : World) (h : code_Big.f a0 = some r) :
  Calls Tryd.prog 36 #[.int .u64 a0] w fun e w' => e = .returned (.string r) ∧ Below w.heap.size w w' := by
 have HB := zM (Below.refl w.heap.size w)
 have H : ((code_Small.f ((a0 / 4294967296) % 4294967296)).bind fun t104 => ((code_Small.f ((a0) % 4294967296)).bind fun t105 => (if t104.size + t105.size ≤ 9223372036854775807 then (some (t104 ++ t105)) else (none)))) = some r := h
 clear h
 replace H := Option.bind_eq_some_iff.mp H
 obtain ⟨t104, A20, H⟩ := H
 replace H : ((code_Small.f ((a0) % 4294967296)).bind fun t105 => (if t104.size + t105.size ≤ 9223372036854775807 then (some (t104 ++ t105)) else (none))) = some r := H
 have A2 := zM A20
 clear A20
 replace H := Option.bind_eq_some_iff.mp H
 obtain ⟨t105, A30, H⟩ := H
 replace H : (if t104.size + t105.size ≤ 9223372036854775807 then (some (t104 ++ t105)) else (none)) = some r := H
 have A3 := zM A30
 clear A30
 by_cases c4 : t104.size + t105.size ≤ 9223372036854775807
 ·rw [if_pos c4] at H
  have c4b0 := eq_true c4
  have c4b1 : decide (t104.size + t105.size ≤ 9223372036854775807) = true := decide_eq_true c4
  try have c4b2 : (9223372036854775807 < t104.size + t105.size) = False := eq_false (Nat.not_lt.2 c4)
  obtain rfl := Option.some.inj H
  go_enter Tryd.func36, Tryd.ntmps36
  go_wp2_with (first | ((with_reducible refine gate_callee (f := 14) rfl ?_); refine goesL_ (some 6) rfl rfl Tryd.func14 (by kernel_rfl) rfl #[.int .u32 ((a0 / 4294967296) % 4294967296)] rfl (by (try simp only [zY, List.map_cons, List.map_nil]); first | done | rfl | (simp only [zV, zX]; rfl)) ?_; (with_reducible refine (code_Small.calls ((a0 / 4294967296) % 4294967296) t104 _ A2.out).mono ?_); rintro e w5 ⟨rfl, hb⟩; refine ⟨_, rfl, ?_⟩; have n0_ := zM (below_step (by repeat (first | (with_reducible first | exact HB.out | apply zL | apply zP | apply zW) | exact HB.out)) hb); clear HB; have HB := n0_; clear n0_; (try clear hb); (try clear hb2); (try clear hk); (try clear hi)) | ((with_reducible refine gate_callee (f := 14) rfl ?_); refine goesL_ (some 9) rfl rfl Tryd.func14 (by kernel_rfl) rfl #[.int .u32 ((a0) % 4294967296)] rfl (by (try simp only [zY, List.map_cons, List.map_nil]); first | done | rfl | (simp only [zV, zX]; rfl)) ?_; (with_reducible refine (code_Small.calls ((a0) % 4294967296) t105 _ A3.out).mono ?_); rintro e w6 ⟨rfl, hb⟩; refine ⟨_, rfl, ?_⟩; have n0_ := zM (below_step (by repeat (first | (with_reducible first | exact HB.out | apply zL | apply zP | apply zW) | exact HB.out)) hb); clear HB; have HB := n0_; clear n0_; (try clear hb); (try clear hb2); (try clear hk); (try clear hi)))
  go_ret
  exact ⟨by first | rfl | (simp [errW_none, errW_some] <;> rfl) | (simp [*, errW_none, errW_some] <;> rfl), by repeat (first | (with_reducible first | exact HB.out | apply zL | apply zP | apply zW) | exact HB.out)⟩
 ·rw [if_neg c4] at H
  exact absurd H (by simp)
def block_nonce.f (a0_0 : Int) (a0_1 : Int) (a0_2 : Int) : Option (ByteArray) := (code_Big.f a0_1).bind fun t107 => ((code_Small.f a0_2).bind fun t108 => (if t107.size + t108.size ≤ 9223372036854775807 then (some (t107 ++ t108)) else (none)))
def block_nonce.T1 : Bool × List (List Nat × List Nat) := (true, [([], []), ([0], [0]), ([1], [1]), ([], []), ([3], [3]), ([4, 2], [4]), ([2, 5], [2, 5]), ([6, 5, 0, 1, 2, 3, 4, 5, 6], [6])])
def block_nonce.B1 : List Nat := [0, 1, 3, 0, 8, 31, 63, 127]
theorem block_nonce.tab1 : rtab .any (opsOf Tryd.f16 1) = block_nonce.T1 := by kernel_rfl
theorem block_nonce.bits1 : waitsOk block_nonce.T1.2 block_nonce.B1 = true := by kernel_rfl
set_option maxHeartbeats 8000000 in
set_option maxRecDepth 100000 in
theorem block_nonce.calls (a0_0 : Int) (a0_1 : Int) (a0_2 : Int) (r : ByteArray) (w : World) (h : block_nonce.f a0_0 a0_1 a0_2 = some r) :
  Calls Tryd.prog 16 #[.agg #[.int .u32 a0_0, .int .u64 a0_1, .int .u32 a0_2]] w fun e w' => e = .returned (.string r) ∧ Below w.heap.size w w' := by
 have hu25 := Tryd.underlying25
 have HB := zM (Below.refl w.heap.size w)
 have H : ((code_Big.f a0_1).bind fun t107 => ((code_Small.f a0_2).bind fun t108 => (if t107.size + t108.size ≤ 9223372036854775807 then (some (t107 ++ t108)) else (none)))) = some r := h
 clear h
 replace H := Option.bind_eq_some_iff.mp H
 obtain ⟨t107, A20, H⟩ := H
 replace H : ((code_Small.f a0_2).bind fun t108 => (if t107.size + t108.size ≤ 9223372036854775807 then (some (t107 ++ t108)) else (none))) = some r := H
 have A2 := zM A20
 clear A20
 replace H := Option.bind_eq_some_iff.mp H
 obtain ⟨t108, A30, H⟩ := H
 replace H : (if t107.size + t108.size ≤ 9223372036854775807 then (some (t107 ++ t108)) else (none)) = some r := H
 have A3 := zM A30
 clear A30
 by_cases c4 : t107.size + t108.size ≤ 9223372036854775807
 ·rw [if_pos c4] at H
  have c4b0 := eq_true c4
  have c4b1 : decide (t107.size + t108.size ≤ 9223372036854775807) = true := decide_eq_true c4
  try have c4b2 : (9223372036854775807 < t107.size + t108.size) = False := eq_false (Nat.not_lt.2 c4)
  obtain rfl := Option.some.inj H
  go_enter Tryd.func16, Tryd.ntmps16
  try go_wp2_with (first | ((with_reducible refine gate_dst (N := 1) rfl ?_); refine box_event ?hg (N := 1) ?hd (cs := #[.int .u32 a0_0, .int .u64 a0_1, .int .u32 a0_2]) (t := 25) ?hr ?_; (case hd => rfl); (case hg => rfl); (case hr => first | (go_simp; done) | (go_simp; rfl)); intro gb106 hg w5 hbox hb; have n0_ := zM (below_step (by repeat (first | (with_reducible first | exact HB.out | apply zL | apply zP | apply zW) | exact HB.out)) hb); have n1_ := zM (hbox); have n2_ := zM ((by rw [hg]; exact (below_size (by repeat (first | (with_reducible first | exact HB.out | apply zL | apply zP | apply zW) | exact HB.out))) : w.heap.size ≤ gb106)); have n3_ := zM ((by rw [hg]; exact (below_size (by repeat (first | (with_reducible first | exact HB.out | apply zL | apply zP | apply zW) | exact HB.out))) : w.heap.size ≤ gb106)); clear HB; have HB := n0_; have BK106 := n1_; have GW106 := n2_; have GE106 := n3_; clear n0_ n1_ n2_ n3_; clear hb hbox hg))
  have n0_ := zM (zD BK106.out)
  have n1_ := zM (zW HB.out)
  clear BK106
  clear HB
  have BK106 := n0_
  have HB := n1_
  clear n0_ n1_
  refine start_ (n := 8) (S := fun w' => w'.cell? ⟨gb106, 0, none⟩ = some (.int .u32 a0_0) ∧ w'.cell? ⟨gb106, 1, none⟩ = some (.int .u64 a0_1) ∧ w'.cell? ⟨gb106, 2, none⟩ = some (.int .u32 a0_2)) (ds := []) #[false, false, false, false, false, false, false, false] (by kernel_rfl) rfl rfl ⟨(zC BK106.out 0).trans rfl, (zC BK106.out 1).trans rfl, (zC BK106.out 2).trans rfl⟩ (fun hHeld => ?_); refine with_tabW block_nonce.tab1 block_nonce.bits1 (fun HT_ HW_ => ?_)
  generalize w5.drew = w6 at BK106 HB hHeld ⊢
  refine pure_ (i := 0) (N := some 3) (v := ?_) (a' := ?_) #[true, false, false, false, false, false, false, false] rfl rfl (any_of HT_.out (by kernel_rfl)) (fun _ _ _ h => h) (Or.inl ⟨by rfl, ?_⟩) ?_ ?_
  rotate_left
  ·intro w'
   go_simp
   with_reducible rfl
  rotate_left
  ·simp only [Act.put, zT, zZ, zU, i64_w, i32_w]
   rfl
  refine pure_ (i := 3) (N := some 6) (v := ?_) (a' := ?_) #[true, false, false, true, false, false, false, false] rfl rfl (any_of HT_.out (by kernel_rfl)) (fun _ _ _ h => h) (Or.inl ⟨by rfl, ?_⟩) ?_ ?_
  rotate_left
  ·intro w'
   go_simp
   with_reducible rfl
  rotate_left
  ·simp only [Act.put, zT, zZ, zU, i64_w, i32_w]
   rfl
  refine take_ (i := 1) (N := some 4) (v := ?_) (a' := ?_) #[true, true, false, true, false, false, false, false] rfl rfl (take_ofW HT_.out HW_.out (by kernel_rfl)) (fun _ _ _ h => h) (Or.inl ⟨by rfl, ?_⟩) hHeld ?_ ?_
  rotate_left
  ·rintro w' ⟨s0, s1, s2⟩
   go_simp
   with_reducible rfl
  rotate_left
  ·simp only [Act.put, zT, zZ, zU, i64_w, i32_w]
   rfl
  refine take_ (i := 4) (N := some 7) (v := ?_) (a' := ?_) #[true, true, false, true, true, false, false, false] rfl rfl (take_ofW HT_.out HW_.out (by kernel_rfl)) (fun _ _ _ h => h) (Or.inl ⟨by rfl, ?_⟩) hHeld ?_ ?_
  rotate_left
  ·rintro w' ⟨s0, s1, s2⟩
   go_simp
   with_reducible rfl
  rotate_left
  ·simp only [Act.put, zT, zZ, zU, i64_w, i32_w]
   rfl
  refine one_ (i := 2) (N := some 5) #[true, true, true, true, true, false, false, false] rfl rfl (one_of HT_.out (by kernel_rfl)) (by decide) (fun K hK => ?_)
  refine goes_ Tryd.func36 (by kernel_rfl) rfl #[.int .u64 a0_1] (by rfl) rfl rfl (by (try simp only [zY, List.map_cons, List.map_nil]); first | done | rfl | (simp only [zV, zX]; rfl)) ?_
  with_reducible refine (code_Big.calls a0_1 t107 _ A2.out).mono ?_
  rintro e w7 ⟨rfl, hb⟩
  refine ⟨_, rfl, ?_⟩
  have n0_ := zM (zB (g := gb106) (o := .cells #[.int .u32 a0_0, .int .u64 a0_1, .int .u32 a0_2] 25 (0, 0)) (by (with_reducible repeat (first | refine zN ?_ _ | refine zD ?_ | refine zA ?_ _)); exact BK106.out) hb)
  have n1_ := zM (below_step (by repeat (first | (with_reducible first | exact HB.out | apply zL | apply zP | apply zW | refine zS ?_ GE106.out) | exact HB.out)) hb)
  clear BK106
  clear HB
  have BK106 := n0_
  have HB := n1_
  clear n0_ n1_
  (try clear hb)
  (try clear hb2)
  (try clear hk)
  (try clear hi)
  refine hK.out _ _ ⟨(zC BK106.out 0).trans rfl, (zC BK106.out 1).trans rfl, (zC BK106.out 2).trans rfl⟩ (fun hHeld => ?_)
  clear hK K
  refine norm_ (a' := ?_) ?_ ?_
  rotate_left
  ·show Act.put _ (some 5) _ = _
   simp only [Act.put, zT, zZ, zU, i64_w, i32_w]
   rfl
  refine one_ (i := 5) (N := some 8) #[true, true, true, true, true, true, false, false] rfl rfl (one_of HT_.out (by kernel_rfl)) (by decide) (fun K hK => ?_)
  refine goes_ Tryd.func14 (by kernel_rfl) rfl #[.int .u32 a0_2] (by rfl) rfl rfl (by (try simp only [zY, List.map_cons, List.map_nil]); first | done | rfl | (simp only [zV, zX]; rfl)) ?_
  with_reducible refine (code_Small.calls a0_2 t108 _ A3.out).mono ?_
  rintro e w8 ⟨rfl, hb⟩
  refine ⟨_, rfl, ?_⟩
  have n0_ := zM (zB (g := gb106) (o := .cells #[.int .u32 a0_0, .int .u64 a0_1, .int .u32 a0_2] 25 (0, 0)) (by (with_reducible repeat (first | refine zN ?_ _ | refine zD ?_ | refine zA ?_ _)); exact BK106.out) hb)
  have n1_ := zM (below_step (by repeat (first | (with_reducible first | exact HB.out | apply zL | apply zP | apply zW | refine zS ?_ GE106.out) | exact HB.out)) hb)
  clear BK106
  clear HB
  have BK106 := n0_
  have HB := n1_
  clear n0_ n1_
  (try clear hb)
  (try clear hb2)
  (try clear hk)
  (try clear hi)
  refine hK.out _ _ ⟨(zC BK106.out 0).trans rfl, (zC BK106.out 1).trans rfl, (zC BK106.out 2).trans rfl⟩ (fun hHeld => ?_)
  clear hK K
  refine norm_ (a' := ?_) ?_ ?_
  rotate_left
  ·show Act.put _ (some 8) _ = _
   simp only [Act.put, zT, zZ, zU, i64_w, i32_w]
   rfl
  refine pure_ (i := 6) (N := some 9) (v := ?_) (a' := ?_) #[true, true, true, true, true, true, true, false] rfl rfl (any_of HT_.out (by kernel_rfl)) (fun _ _ _ h => h) (Or.inl ⟨by rfl, ?_⟩) ?_ ?_
  rotate_left
  ·intro w'
   go_simp
   with_reducible rfl
  rotate_left
  ·simp only [Act.put, zT, zZ, zU, i64_w, i32_w]
   rfl
  refine pure_ (i := 7) (N := some 2) (v := ?_) (a' := ?_) #[true, true, true, true, true, true, true, true] rfl rfl (any_of HT_.out (by kernel_rfl)) (fun _ _ _ h => h) (Or.inl ⟨by rfl, ?_⟩) ?_ ?_
  rotate_left
  ·intro w'
   go_simp
   with_reducible rfl
  rotate_left
  ·simp only [Act.put, zT, zZ, zU, i64_w, i32_w]
   rfl
  refine done_ (done_of HT_.out (by kernel_rfl)) ?_
  try go_wp2
  go_ret
  exact ⟨by first | rfl | (simp [errW_none, errW_some] <;> rfl) | (simp [*, errW_none, errW_some] <;> rfl), by repeat (first | (with_reducible first | exact HB.out | apply zL | apply zP | apply zW | refine zS ?_ GE106.out) | exact HB.out)⟩
 ·rw [if_neg c4] at H
  exact absurd H (by simp)
def chacha_May.f (a0 : ByteArray) (a1 : ByteArray) : Option (Bool) := if (a0.size : Int) = 32 then (some ((a1.size : Int) == 12)) else (some false)
set_option maxHeartbeats 8000000 in
set_option maxRecDepth 100000 in
theorem chacha_May.calls (a0 : ByteArray) (a1 : ByteArray) (r : Bool) (w : World) (h : chacha_May.f a0 a1 = some r) :
  Calls Tryd.prog 37 #[.string a0, .string a1] w fun e w' => e = .returned (.bool r) ∧ Drawn0 w w' := by
 have H : (if (a0.size : Int) = 32 then (some ((a1.size : Int) == 12)) else (some false)) = some r := h
 clear h
 by_cases c3 : (a0.size : Int) = 32
 ·rw [if_pos c3] at H
  have c3b0 : ((a0.size : Int) == 32) = true := beq_iff_eq.mpr c3
  have c3b1 : ((a0.size : Int) != 32) = false := bne_eq_false_iff_eq.mpr c3
  clear c3
  obtain rfl := Option.some.inj H
  go_enter Tryd.func37, Tryd.ntmps37
  go_wp2
  go_ret
  exact ⟨by first | rfl | (simp; done) | (simp [*]; done), by repeat (first | exact Drawn0.refl _ | apply Drawn0.step)⟩
 ·rw [if_neg c3] at H
  have c3b0 : ((a0.size : Int) == 32) = false := beq_eq_false_iff_ne.mpr c3
  have c3b1 : ((a0.size : Int) != 32) = true := bne_iff_ne.mpr c3
  obtain rfl := Option.some.inj H
  go_enter Tryd.func37, Tryd.ntmps37
  go_wp2
  go_ret
  exact ⟨by first | rfl | (simp; done) | (simp [*]; done), by repeat (first | exact Drawn0.refl _ | apply Drawn0.step)⟩
def chacha_Turn.f (a0 a1 a2 : ByteArray) : Option ByteArray := if a0.size = 32 ∧ a1.size = 12 then (if a2.size ≤ 140737488351232 then some (Go.Proofs.YtgbhjkkfleeodaaDoor.Cha.turned a0 a1 a2) else none) else some ⟨#[]⟩
theorem chacha_Turn.calls (a0 : ByteArray) (a1 : ByteArray) (a2 : ByteArray) (r : ByteArray) (w : World) (h : chacha_Turn.f a0 a1 a2 = some r) :
  Calls Tryd.prog 38 #[.string a0, .string a1, .string a2] w fun e w' => e = .returned (.string r) ∧ Below w.heap.size w w' := by
 unfold chacha_Turn.f at h
 by_cases c : a0.size = 32 ∧ a1.size = 12
 ·rw [if_pos c] at h
  by_cases c2 : a2.size ≤ 140737488351232
  ·rw [if_pos c2] at h
   obtain rfl := Option.some.inj h
   exact Go.Proofs.YtgbhjkkfleeodaaDoor.Cha.turn_calls a0 a1 a2 c2 c.1 c.2 w
  ·rw [if_neg c2] at h
   exact absurd h (by simp)
 ·rw [if_neg c] at h
  obtain rfl := Option.some.inj h
  refine (Go.Proofs.YtgbhjkkfleeodaaDoor.Cha.turn_none a0 a1 a2 c w).mono ?_
  rintro e w' ⟨rfl, rfl⟩
  exact ⟨rfl, Below.refl _ _⟩
def hmac_Tag.f (a0 a1 : ByteArray) : Option ByteArray := if a0.size ≤ 140737488351232 ∧ a1.size + 64 ≤ 140737488351232 then some (Go.Proofs.YtgbhjkkfleeodaaDoor.Hm.tag a0 a1) else none
theorem hmac_Tag.calls (a0 : ByteArray) (a1 : ByteArray) (r : ByteArray) (w : World) (hG_ : Go.Proofs.YtgbhjkkfleeodaaDoor.Sha.SL w) (h : hmac_Tag.f a0 a1 = some r) :
  Calls Tryd.prog 62 #[.string a0, .string a1] w fun e w' => e = .returned (.string r) ∧ Below w.heap.size w w' := by
 unfold hmac_Tag.f at h
 by_cases c : a0.size ≤ 140737488351232 ∧ a1.size + 64 ≤ 140737488351232
 ·rw [if_pos c] at h
  obtain rfl := Option.some.inj h
  exact Go.Proofs.YtgbhjkkfleeodaaDoor.Hm.tag_calls a0 a1 c.1 c.2 w hG_
 ·rw [if_neg c] at h
  exact absurd h (by simp)
def seal_tag.f (a0_0 : ByteArray) (a0_1 : ByteArray) (a1 : Int) (a2 : ByteArray) (a3 : ByteArray) : Option (ByteArray) := (code_Small.f ((a1) % 4294967296)).bind fun t110 => (if t110.size + a2.size ≤ 9223372036854775807 then (if (t110 ++ a2).size + a3.size ≤ 9223372036854775807 then ((hmac_Tag.f a0_1 ((t110 ++ a2) ++ a3)).bind fun t111 => (some t111)) else (none)) else (none))
def seal_tag.T1 : Bool × List (List Nat × List Nat) := (true, [([], []), ([0], [0]), ([], []), ([2], [2]), ([3], [3]), ([], []), ([4, 5], [4, 5]), ([], []), ([6, 7], [6, 7]), ([1, 8, 4], [1, 8]), ([9, 9, 0, 1, 2, 3, 4, 5, 6, 7, 8, 9], [9])])
def seal_tag.B1 : List Nat := [0, 1, 0, 4, 12, 0, 60, 0, 252, 511, 1023]
theorem seal_tag.tab1 : rtab .any (opsOf Tryd.f39 1) = seal_tag.T1 := by kernel_rfl
theorem seal_tag.bits1 : waitsOk seal_tag.T1.2 seal_tag.B1 = true := by kernel_rfl
set_option maxHeartbeats 8000000 in
set_option maxRecDepth 100000 in
theorem seal_tag.calls (a0_0 : ByteArray) (a0_1 : ByteArray) (a1 : Int) (a2 : ByteArray) (a3 : ByteArray) (r : ByteArray) (w : World) (hG_ : Go.Proofs.YtgbhjkkfleeodaaDoor.Sha.SL w) (h : seal_tag.f a0_0 a0_1 a1 a2 a3 = some r) :
  Calls Tryd.prog 39 #[.agg #[.string a0_0, .string a0_1], .int .i64 a1, .string a2, .string a3] w fun e w' => e = .returned (.string r) ∧ Below w.heap.size w w' := by
 have HG_ := zM hG_
 clear hG_
 have hu49 := Tryd.underlying49
 have HB := zM (Below.refl w.heap.size w)
 have H : ((code_Small.f ((a1) % 4294967296)).bind fun t110 => (if t110.size + a2.size ≤ 9223372036854775807 then (if (t110 ++ a2).size + a3.size ≤ 9223372036854775807 then ((hmac_Tag.f a0_1 ((t110 ++ a2) ++ a3)).bind fun t111 => (some t111)) else (none)) else (none))) = some r := h
 clear h
 replace H := Option.bind_eq_some_iff.mp H
 obtain ⟨t110, A50, H⟩ := H
 replace H : (if t110.size + a2.size ≤ 9223372036854775807 then (if (t110 ++ a2).size + a3.size ≤ 9223372036854775807 then ((hmac_Tag.f a0_1 ((t110 ++ a2) ++ a3)).bind fun t111 => (some t111)) else (none)) else (none)) = some r := H
 have A5 := zM A50
 clear A50
 by_cases c6 : t110.size + a2.size ≤ 9223372036854775807
 ·rw [if_pos c6] at H
  have c6b0 := eq_true c6
  have c6b1 : decide (t110.size + a2.size ≤ 9223372036854775807) = true := decide_eq_true c6
  try have c6b2 : (9223372036854775807 < t110.size + a2.size) = False := eq_false (Nat.not_lt.2 c6)
  by_cases c7 : (t110 ++ a2).size + a3.size ≤ 9223372036854775807
  ·rw [if_pos c7] at H
   have c7b0 := eq_true c7
   have c7b1 : decide ((t110 ++ a2).size + a3.size ≤ 9223372036854775807) = true := decide_eq_true c7
   try have c7b2 : (9223372036854775807 < (t110 ++ a2).size + a3.size) = False := eq_false (Nat.not_lt.2 c7)
   have c7q := c7
   simp only [ByteArray.size_append] at c7q
   have c7b9 := eq_false (Nat.not_lt.2 c7q)
   clear c7q
   replace H := Option.bind_eq_some_iff.mp H
   obtain ⟨t111, A80, H⟩ := H
   replace H : (some t111) = some r := H
   have A8 := zM A80
   clear A80
   obtain rfl := Option.some.inj H
   go_enter Tryd.func39, Tryd.ntmps39
   try go_wp2_with (first | ((with_reducible refine gate_dst (N := 4) rfl ?_); refine box_event ?hg (N := 4) ?hd (cs := #[.string a0_0, .string a0_1]) (t := 49) ?hr ?_; (case hd => rfl); (case hg => rfl); (case hr => first | (go_simp; done) | (go_simp; rfl)); intro gb109 hg w9 hbox hb; have n0_ := zM (below_step (by repeat (first | (with_reducible first | exact HB.out | apply zL | apply zP | apply zW) | exact HB.out)) hb); have n1_ := zM (hbox); have n2_ := zM ((by rw [hg]; exact (below_size (by repeat (first | (with_reducible first | exact HB.out | apply zL | apply zP | apply zW) | exact HB.out))) : w.heap.size ≤ gb109)); have n3_ := zM ((by rw [hg]; exact (below_size (by repeat (first | (with_reducible first | exact HB.out | apply zL | apply zP | apply zW) | exact HB.out))) : w.heap.size ≤ gb109)); clear HB; have HB := n0_; have BK109 := n1_; have GW109 := n2_; have GE109 := n3_; clear n0_ n1_ n2_ n3_; clear hb hbox hg))
   have n0_ := zM (zD BK109.out)
   have n1_ := zM (zW HB.out)
   clear BK109
   clear HB
   have BK109 := n0_
   have HB := n1_
   clear n0_ n1_
   refine start_ (n := 11) (S := fun w' => w'.cell? ⟨gb109, 0, none⟩ = some (.string a0_0) ∧ w'.cell? ⟨gb109, 1, none⟩ = some (.string a0_1)) (ds := []) zb2_0 (by kernel_rfl) rfl rfl ⟨(zC BK109.out 0).trans rfl, (zC BK109.out 1).trans rfl⟩ (fun hHeld => ?_); refine with_tabW seal_tag.tab1 seal_tag.bits1 (fun HT_ HW_ => ?_)
   generalize w9.drew = w10 at BK109 HB hHeld ⊢
   refine pure_ (i := 0) (N := some 9) (v := ?_) (a' := ?_) zb2_1 rfl rfl (any_of HT_.out (by kernel_rfl)) (fun _ _ _ h => h) (Or.inl ⟨by rfl, ?_⟩) ?_ ?_
   rotate_left
   ·intro w'
    go_simp
    with_reducible rfl
   rotate_left
   ·simp only [Act.put, zT, zZ, zU, i64_w, i32_w]
    rfl
   refine pure_ (i := 2) (N := some 11) (v := ?_) (a' := ?_) zb2_2 rfl rfl (any_of HT_.out (by kernel_rfl)) (fun _ _ _ h => h) (Or.inl ⟨by rfl, ?_⟩) ?_ ?_
   rotate_left
   ·intro w'
    go_simp
    with_reducible rfl
   rotate_left
   ·simp only [Act.put, zT, zZ, zU, i64_w, i32_w]
    rfl
   refine pure_ (i := 3) (N := some 12) (v := ?_) (a' := ?_) zb2_3 rfl rfl (any_of HT_.out (by kernel_rfl)) (fun _ _ _ h => h) (Or.inl ⟨by rfl, ?_⟩) ?_ ?_
   rotate_left
   ·intro w'
    go_simp
    with_reducible rfl
   rotate_left
   ·simp only [Act.put, zT, zZ, zU, i64_w, i32_w]
    rfl
   refine pure_ (i := 5) (N := some 14) (v := ?_) (a' := ?_) zb2_4 rfl rfl (any_of HT_.out (by kernel_rfl)) (fun _ _ _ h => h) (Or.inl ⟨by rfl, ?_⟩) ?_ ?_
   rotate_left
   ·intro w'
    go_simp
    with_reducible rfl
   rotate_left
   ·simp only [Act.put, zT, zZ, zU, i64_w, i32_w]
    rfl
   refine pure_ (i := 7) (N := some 16) (v := ?_) (a' := ?_) zb2_5 rfl rfl (any_of HT_.out (by kernel_rfl)) (fun _ _ _ h => h) (Or.inl ⟨by rfl, ?_⟩) ?_ ?_
   rotate_left
   ·intro w'
    go_simp
    with_reducible rfl
   rotate_left
   ·simp only [Act.put, zT, zZ, zU, i64_w, i32_w]
    rfl
   refine take_ (i := 1) (N := some 10) (v := ?_) (a' := ?_) zb2_6 rfl rfl (take_ofW HT_.out HW_.out (by kernel_rfl)) (fun _ _ _ h => h) (Or.inl ⟨by rfl, ?_⟩) hHeld ?_ ?_
   rotate_left
   ·rintro w' ⟨s0, s1⟩
    go_simp
    with_reducible rfl
   rotate_left
   ·simp only [Act.put, zT, zZ, zU, i64_w, i32_w]
    rfl
   refine one_ (i := 4) (N := some 13) zb2_7 rfl rfl (one_of HT_.out (by kernel_rfl)) (by decide) (fun K hK => ?_)
   refine goes_ Tryd.func14 (by kernel_rfl) rfl #[.int .u32 ((a1) % 4294967296)] (by rfl) rfl rfl (by (try simp only [zY, List.map_cons, List.map_nil]); first | done | rfl | (simp only [zV, zX]; rfl)) ?_
   with_reducible refine (code_Small.calls ((a1) % 4294967296) t110 _ A5.out).mono ?_
   rintro e w11 ⟨rfl, hb⟩
   refine ⟨_, rfl, ?_⟩
   have n0_ := zM (zB (g := gb109) (o := .cells #[.string a0_0, .string a0_1] 49 (0, 0)) (by (with_reducible repeat (first | refine zN ?_ _ | refine zD ?_ | refine zA ?_ _)); exact BK109.out) hb)
   have n1_ := zM (below_step (by repeat (first | (with_reducible first | exact HB.out | apply zL | apply zP | apply zW | refine zS ?_ GE109.out) | exact HB.out)) hb)
   clear BK109
   clear HB
   have BK109 := n0_
   have HB := n1_
   clear n0_ n1_
   (try clear hb)
   (try clear hb2)
   (try clear hk)
   (try clear hi)
   refine hK.out _ _ ⟨(zC BK109.out 0).trans rfl, (zC BK109.out 1).trans rfl⟩ (fun hHeld => ?_)
   clear hK K
   refine norm_ (a' := ?_) ?_ ?_
   rotate_left
   ·show Act.put _ (some 13) _ = _
    simp only [Act.put, zT, zZ, zU, i64_w, i32_w]
    rfl
   refine pure_ (i := 6) (N := some 15) (v := ?_) (a' := ?_) zb2_8 rfl rfl (any_of HT_.out (by kernel_rfl)) (fun _ _ _ h => h) (Or.inl ⟨by rfl, ?_⟩) ?_ ?_
   rotate_left
   ·intro w'
    go_simp
    with_reducible rfl
   rotate_left
   ·simp only [Act.put, zT, zZ, zU, i64_w, i32_w]
    rfl
   refine pure_ (i := 8) (N := some 17) (v := ?_) (a' := ?_) zb2_9 rfl rfl (any_of HT_.out (by kernel_rfl)) (fun _ _ _ h => h) (Or.inl ⟨by rfl, ?_⟩) ?_ ?_
   rotate_left
   ·intro w'
    go_simp
    with_reducible rfl
   rotate_left
   ·simp only [Act.put, zT, zZ, zU, i64_w, i32_w]
    rfl
   refine one_ (i := 9) (N := some 18) zb2_10 rfl rfl (one_of HT_.out (by kernel_rfl)) (by decide) (fun K hK => ?_)
   refine goes_ Tryd.func62 (by kernel_rfl) rfl #[.string a0_1, .string ((t110 ++ a2) ++ a3)] (by rfl) rfl rfl (by (try simp only [zY, List.map_cons, List.map_nil]); first | done | rfl | (simp only [zV, zX]; rfl)) ?_
   with_reducible refine (hmac_Tag.calls a0_1 ((t110 ++ a2) ++ a3) t111 _ ?side1 A8.out).mono ?_
   (case side1 => exact Go.Proofs.YtgbhjkkfleeodaaDoor.Sha.SL.below HG_.out (by repeat (first | (with_reducible first | exact HB.out | apply zL | apply zP | apply zW | refine zS ?_ GE109.out) | exact HB.out)))
   rintro e w12 ⟨rfl, hb⟩
   refine ⟨_, rfl, ?_⟩
   have n0_ := zM (zB (g := gb109) (o := .cells #[.string a0_0, .string a0_1] 49 (0, 0)) (by (with_reducible repeat (first | refine zN ?_ _ | refine zD ?_ | refine zA ?_ _)); exact BK109.out) hb)
   have n1_ := zM (below_step (by repeat (first | (with_reducible first | exact HB.out | apply zL | apply zP | apply zW | refine zS ?_ GE109.out) | exact HB.out)) hb)
   clear BK109
   clear HB
   have BK109 := n0_
   have HB := n1_
   clear n0_ n1_
   (try clear hb)
   (try clear hb2)
   (try clear hk)
   (try clear hi)
   refine hK.out _ _ ⟨(zC BK109.out 0).trans rfl, (zC BK109.out 1).trans rfl⟩ (fun hHeld => ?_)
   clear hK K
   refine norm_ (a' := ?_) ?_ ?_
   rotate_left
   ·show Act.put _ (some 18) _ = _
    simp only [Act.put, zT, zZ, zU, i64_w, i32_w]
    rfl
   refine pure_ (i := 10) (N := some 8) (v := ?_) (a' := ?_) zb2_11 rfl rfl (any_of HT_.out (by kernel_rfl)) (fun _ _ _ h => h) (Or.inl ⟨by rfl, ?_⟩) ?_ ?_
   rotate_left
   ·intro w'
    go_simp
    with_reducible rfl
   rotate_left
   ·simp only [Act.put, zT, zZ, zU, i64_w, i32_w]
    rfl
   refine done_ (done_of HT_.out (by kernel_rfl)) ?_
   try go_wp2
   go_ret
   exact ⟨by first | rfl | (simp [errW_none, errW_some] <;> rfl) | (simp [*, errW_none, errW_some] <;> rfl), by repeat (first | (with_reducible first | exact HB.out | apply zL | apply zP | apply zW | refine zS ?_ GE109.out) | exact HB.out)⟩
  ·rw [if_neg c7] at H
   exact absurd H (by simp)
 ·rw [if_neg c6] at H
  exact absurd H (by simp)
def seal_Put.f (a0_0 : ByteArray) (a0_1 : ByteArray) (a1 : Int) (a2 : ByteArray) (a3 : ByteArray) : Option (ByteArray) := (chacha_May.f a0_0 a2).bind fun t113 => (if t113 = true then ((chacha_Turn.f a0_0 a2 a3).bind fun t114 => ((seal_tag.f a0_0 a0_1 a1 a2 t114).bind fun t115 => (if t114.size + t115.size ≤ 9223372036854775807 then (some (t114 ++ t115)) else (none)))) else (some (⟨#[]⟩ : ByteArray)))
set_option maxHeartbeats 8000000 in
set_option maxRecDepth 100000 in
theorem seal_Put.calls (a0_0 : ByteArray) (a0_1 : ByteArray) (a1 : Int) (a2 : ByteArray) (a3 : ByteArray) (r : ByteArray) (w : World) (hG_ : Go.Proofs.YtgbhjkkfleeodaaDoor.Sha.SL w) (h : seal_Put.f a0_0 a0_1 a1 a2 a3 = some r) :
  Calls Tryd.prog 17 #[.agg #[.string a0_0, .string a0_1], .int .i64 a1, .string a2, .string a3] w fun e w' => e = .returned (.string r) ∧ Below w.heap.size w w' := by
 have HG_ := zM hG_
 clear hG_
 have hu49 := Tryd.underlying49
 have HB := zM (Below.refl w.heap.size w)
 have H : ((chacha_May.f a0_0 a2).bind fun t113 => (if t113 = true then ((chacha_Turn.f a0_0 a2 a3).bind fun t114 => ((seal_tag.f a0_0 a0_1 a1 a2 t114).bind fun t115 => (if t114.size + t115.size ≤ 9223372036854775807 then (some (t114 ++ t115)) else (none)))) else (some (⟨#[]⟩ : ByteArray)))) = some r := h
 clear h
 replace H := Option.bind_eq_some_iff.mp H
 obtain ⟨t113, A50, H⟩ := H
 replace H : (if t113 = true then ((chacha_Turn.f a0_0 a2 a3).bind fun t114 => ((seal_tag.f a0_0 a0_1 a1 a2 t114).bind fun t115 => (if t114.size + t115.size ≤ 9223372036854775807 then (some (t114 ++ t115)) else (none)))) else (some (⟨#[]⟩ : ByteArray))) = some r := H
 have A5 := zM A50
 clear A50
 by_cases c6 : t113 = true
 ·subst c6
  have H1 : ((chacha_Turn.f a0_0 a2 a3).bind fun t114 => ((seal_tag.f a0_0 a0_1 a1 a2 t114).bind fun t115 => (if t114.size + t115.size ≤ 9223372036854775807 then (some (t114 ++ t115)) else (none)))) = some r := by rw [if_pos rfl] at H; exact H
  clear H
  have H := H1
  clear H1
  replace H := Option.bind_eq_some_iff.mp H
  obtain ⟨t114, A70, H⟩ := H
  replace H : ((seal_tag.f a0_0 a0_1 a1 a2 t114).bind fun t115 => (if t114.size + t115.size ≤ 9223372036854775807 then (some (t114 ++ t115)) else (none))) = some r := H
  have A7 := zM A70
  clear A70
  replace H := Option.bind_eq_some_iff.mp H
  obtain ⟨t115, A80, H⟩ := H
  replace H : (if t114.size + t115.size ≤ 9223372036854775807 then (some (t114 ++ t115)) else (none)) = some r := H
  have A8 := zM A80
  clear A80
  by_cases c9 : t114.size + t115.size ≤ 9223372036854775807
  ·rw [if_pos c9] at H
   have c9b0 := eq_true c9
   have c9b1 : decide (t114.size + t115.size ≤ 9223372036854775807) = true := decide_eq_true c9
   try have c9b2 : (9223372036854775807 < t114.size + t115.size) = False := eq_false (Nat.not_lt.2 c9)
   obtain rfl := Option.some.inj H
   go_enter Tryd.func17, Tryd.ntmps17
   go_wp2_with (first | ((with_reducible refine gate_dst (N := 4) rfl ?_); refine box_event ?hg (N := 4) ?hd (cs := #[.string a0_0, .string a0_1]) (t := 49) ?hr ?_; (case hd => rfl); (case hg => rfl); (case hr => first | (go_simp; done) | (go_simp; rfl)); intro gb112 hg w10 hbox hb; have n0_ := zM (below_step (by repeat (first | (with_reducible first | exact HB.out | apply zL | apply zP | apply zW) | exact HB.out)) hb); have n1_ := zM (hbox); have n2_ := zM ((by rw [hg]; exact (below_size (by repeat (first | (with_reducible first | exact HB.out | apply zL | apply zP | apply zW) | exact HB.out))) : w.heap.size ≤ gb112)); have n3_ := zM ((by rw [hg]; exact (below_size (by repeat (first | (with_reducible first | exact HB.out | apply zL | apply zP | apply zW) | exact HB.out))) : w.heap.size ≤ gb112)); clear HB; have HB := n0_; have BK112 := n1_; have GW112 := n2_; have GE112 := n3_; clear n0_ n1_ n2_ n3_; clear hb hbox hg; have hcz11_0 : w10.cell? ⟨gb112, 0, none⟩ = some (.string a0_0) := (zC BK112.out 0).trans rfl; have hcz11_1 : w10.cell? ⟨gb112, 1, none⟩ = some (.string a0_1) := (zC BK112.out 1).trans rfl; have hfz11_0 := zF BK112.out 0; have hfz11_1 := zF BK112.out 1) | ((with_reducible refine gate_callee (f := 37) rfl ?_); refine goesL_ (some 13) rfl rfl Tryd.func37 (by kernel_rfl) rfl #[.string a0_0, .string a2] rfl (by (try simp only [zY, List.map_cons, List.map_nil]); first | done | rfl | (simp only [zV, zX]; rfl)) ?_; (with_reducible refine (chacha_May.calls a0_0 a2 true _ A5.out).mono ?_); rintro e w' ⟨rfl, ⟨nd, rfl⟩⟩; refine ⟨_, rfl, ?_⟩) | ((with_reducible refine gate_callee (f := 38) rfl ?_); refine goesL_ (some 19) rfl rfl Tryd.func38 (by kernel_rfl) rfl #[.string a0_0, .string a2, .string a3] rfl (by (try simp only [zY, List.map_cons, List.map_nil]); first | done | rfl | (simp only [zV, zX]; rfl)) ?_; (with_reducible refine (chacha_Turn.calls a0_0 a2 a3 t114 _ A7.out).mono ?_); rintro e w12 ⟨rfl, hb⟩; refine ⟨_, rfl, ?_⟩; have n0_ := zM (zB (g := gb112) (o := .cells #[.string a0_0, .string a0_1] 49 (0, 0)) (by (with_reducible repeat (first | refine zN ?_ _ | refine zD ?_ | refine zA ?_ _)); exact BK112.out) hb); have n1_ := zM (below_step (by repeat (first | (with_reducible first | exact HB.out | apply zL | apply zP | apply zW | refine zS ?_ GE112.out) | exact HB.out)) hb); clear BK112; clear HB; have BK112 := n0_; have HB := n1_; clear n0_ n1_; (try clear hb); (try clear hb2); (try clear hk); (try clear hi); have hcz13_0 : w12.cell? ⟨gb112, 0, none⟩ = some (.string a0_0) := (zC BK112.out 0).trans rfl; have hcz13_1 : w12.cell? ⟨gb112, 1, none⟩ = some (.string a0_1) := (zC BK112.out 1).trans rfl; have hfz13_0 := zF BK112.out 0; have hfz13_1 := zF BK112.out 1) | ((with_reducible refine gate_callee (f := 39) rfl ?_); refine goesL_ (some 25) rfl rfl Tryd.func39 (by kernel_rfl) rfl #[.agg #[.string a0_0, .string a0_1], .int .i64 a1, .string a2, .string t114] rfl (by (try simp only [zY, List.map_cons, List.map_nil]); first | done | rfl | (simp only [zV, zX]; rfl)) ?_; (with_reducible refine (seal_tag.calls a0_0 a0_1 a1 a2 t114 t115 _ ?side1 A8.out).mono ?_); (case side1 => exact Go.Proofs.YtgbhjkkfleeodaaDoor.Sha.SL.below HG_.out (by repeat (first | (with_reducible first | exact HB.out | apply zL | apply zP | apply zW | refine zS ?_ GE112.out) | exact HB.out))); rintro e w14 ⟨rfl, hb⟩; refine ⟨_, rfl, ?_⟩; have n0_ := zM (zB (g := gb112) (o := .cells #[.string a0_0, .string a0_1] 49 (0, 0)) (by (with_reducible repeat (first | refine zN ?_ _ | refine zD ?_ | refine zA ?_ _)); exact BK112.out) hb); have n1_ := zM (below_step (by repeat (first | (with_reducible first | exact HB.out | apply zL | apply zP | apply zW | refine zS ?_ GE112.out) | exact HB.out)) hb); clear BK112; clear HB; have BK112 := n0_; have HB := n1_; clear n0_ n1_; (try clear hb); (try clear hb2); (try clear hk); (try clear hi)))
   go_ret
   exact ⟨by first | rfl | (simp [errW_none, errW_some] <;> rfl) | (simp [*, errW_none, errW_some] <;> rfl), by repeat (first | (with_reducible first | exact HB.out | apply zL | apply zP | apply zW | refine zS ?_ GE112.out) | exact HB.out)⟩
  ·rw [if_neg c9] at H
   exact absurd H (by simp)
 ·replace c6 := Bool.eq_false_iff.mpr c6
  subst c6
  have H1 : (some (⟨#[]⟩ : ByteArray)) = some r := by rw [if_neg (show ¬ (false = true) by decide)] at H; exact H
  clear H
  have H := H1
  clear H1
  obtain rfl := Option.some.inj H
  go_enter Tryd.func17, Tryd.ntmps17
  go_wp2_with (first | ((with_reducible refine gate_dst (N := 4) rfl ?_); refine box_event ?hg (N := 4) ?hd (cs := #[.string a0_0, .string a0_1]) (t := 49) ?hr ?_; (case hd => rfl); (case hg => rfl); (case hr => first | (go_simp; done) | (go_simp; rfl)); intro gb112 hg w15 hbox hb; have n0_ := zM (below_step (by repeat (first | (with_reducible first | exact HB.out | apply zL | apply zP | apply zW) | exact HB.out)) hb); have n1_ := zM (hbox); have n2_ := zM ((by rw [hg]; exact (below_size (by repeat (first | (with_reducible first | exact HB.out | apply zL | apply zP | apply zW) | exact HB.out))) : w.heap.size ≤ gb112)); have n3_ := zM ((by rw [hg]; exact (below_size (by repeat (first | (with_reducible first | exact HB.out | apply zL | apply zP | apply zW) | exact HB.out))) : w.heap.size ≤ gb112)); clear HB; have HB := n0_; have BK112 := n1_; have GW112 := n2_; have GE112 := n3_; clear n0_ n1_ n2_ n3_; clear hb hbox hg; have hcz16_0 : w15.cell? ⟨gb112, 0, none⟩ = some (.string a0_0) := (zC BK112.out 0).trans rfl; have hcz16_1 : w15.cell? ⟨gb112, 1, none⟩ = some (.string a0_1) := (zC BK112.out 1).trans rfl; have hfz16_0 := zF BK112.out 0; have hfz16_1 := zF BK112.out 1) | ((with_reducible refine gate_callee (f := 37) rfl ?_); refine goesL_ (some 13) rfl rfl Tryd.func37 (by kernel_rfl) rfl #[.string a0_0, .string a2] rfl (by (try simp only [zY, List.map_cons, List.map_nil]); first | done | rfl | (simp only [zV, zX]; rfl)) ?_; (with_reducible refine (chacha_May.calls a0_0 a2 false _ A5.out).mono ?_); rintro e w' ⟨rfl, ⟨nd, rfl⟩⟩; refine ⟨_, rfl, ?_⟩))
  go_ret
  exact ⟨by first | rfl | (simp [errW_none, errW_some] <;> rfl) | (simp [*, errW_none, errW_some] <;> rfl), by repeat (first | (with_reducible first | exact HB.out | apply zL | apply zP | apply zW | refine zS ?_ GE112.out) | exact HB.out)⟩
mutual
def hmac_Expand.j0 : Nat → ByteArray → ByteArray → Int → Bool → Option (ByteArray × Int)
 | 0, _, _, _, _ => none
 | k + 1, x0, x1, x2, x16 => if x16 = true then (some ((⟨#[]⟩ : ByteArray), 1)) else (hmac_Expand.l0 k x0 x1 x2 (⟨#[]⟩ : ByteArray) (⟨#[]⟩ : ByteArray) 1)
def hmac_Expand.l0 : Nat → ByteArray → ByteArray → Int → ByteArray → ByteArray → Int → Option (ByteArray × Int)
 | 0, _, _, _, _, _, _ => none
 | k + 1, x0, x1, x2, x8, x9, x10 => if (x8.size : Int) < x2 then (if x9.size + x1.size ≤ 9223372036854775807 then ((some (([x10] : List Int) : List Int)).bind fun y116 => (if (x9 ++ x1).size + (strOfNums y116).size ≤ 9223372036854775807 then ((hmac_Tag.f x0 ((x9 ++ x1) ++ (strOfNums y116))).bind fun t119 => (if x8.size + t119.size ≤ 9223372036854775807 then (hmac_Expand.l0 k x0 x1 x2 (x8 ++ t119) t119 ((x10 + 1) % 256)) else (none))) else (none))) else (none)) else (if 0 ≤ x2 then (if x2 ≤ (x8.size : Int) then (some (x8.extract 0 (x2 : Int).toNat, 0)) else (none)) else (none))
end
def hmac_Expand.f (k : Nat) (a0 : ByteArray) (a1 : ByteArray) (a2 : Int) : Option (ByteArray × Int) := if a2 < 0 then (hmac_Expand.j0 k a0 a1 a2 true) else (hmac_Expand.j0 k a0 a1 a2 (decide (a2 > 8160)))
theorem hmac_Expand.mono_l : ∀ k, (∀ y0 y1 y2 y3, LeO (hmac_Expand.j0 k y0 y1 y2 y3) (hmac_Expand.j0 (k + 1) y0 y1 y2 y3)) ∧ (∀ y0 y1 y2 y3 y4 y5, LeO (hmac_Expand.l0 k y0 y1 y2 y3 y4 y5) (hmac_Expand.l0 (k + 1) y0 y1 y2 y3 y4 y5))
 | 0 => ⟨fun _ _ _ _ r h => by simp [hmac_Expand.j0] at h, fun _ _ _ _ _ _ r h => by simp [hmac_Expand.l0] at h⟩
 | k + 1 => by
  obtain ⟨ih0, ih1⟩ := hmac_Expand.mono_l k
  refine ⟨?_, ?_⟩
  ·intro y0 y1 y2 y3
   unfold hmac_Expand.j0
   repeat' first
   | (with_reducible exact ih0 _ _ _ _)
   | (with_reducible exact ih1 _ _ _ _ _ _)
   | (with_reducible exact LeO.refl _)
   | (with_reducible exact LeO.none _)
   | (with_reducible refine LeO.ite ?_ ?_)
   | (with_reducible refine LeO.bind ?_ (fun _ => ?_))
   | exact ih0 _ _ _ _
   | exact ih1 _ _ _ _ _ _
   | exact LeO.none _
   | refine LeO.ite ?_ ?_
   | refine LeO.bind ?_ (fun _ => ?_)
  ·intro y0 y1 y2 y3 y4 y5
   unfold hmac_Expand.l0
   repeat' first
   | (with_reducible exact ih0 _ _ _ _)
   | (with_reducible exact ih1 _ _ _ _ _ _)
   | (with_reducible exact LeO.refl _)
   | (with_reducible exact LeO.none _)
   | (with_reducible refine LeO.ite ?_ ?_)
   | (with_reducible refine LeO.bind ?_ (fun _ => ?_))
   | exact ih0 _ _ _ _
   | exact ih1 _ _ _ _ _ _
   | exact LeO.none _
   | refine LeO.ite ?_ ?_
   | refine LeO.bind ?_ (fun _ => ?_)
theorem hmac_Expand.mono : ∀ a0 a1 a2 k, LeO (hmac_Expand.f k a0 a1 a2) (hmac_Expand.f (k + 1) a0 a1 a2) := by
 intro a0 a1 a2 k
 obtain ⟨ih0, ih1⟩ := hmac_Expand.mono_l k
 unfold hmac_Expand.f
 repeat' first
   | (with_reducible exact ih0 _ _ _ _)
   | (with_reducible exact ih1 _ _ _ _ _ _)
   | (with_reducible exact LeO.refl _)
   | (with_reducible exact LeO.none _)
   | (with_reducible refine LeO.ite ?_ ?_)
   | (with_reducible refine LeO.bind ?_ (fun _ => ?_))
   | exact ih0 _ _ _ _
   | exact ih1 _ _ _ _ _ _
   | exact LeO.none _
   | refine LeO.ite ?_ ?_
   | refine LeO.bind ?_ (fun _ => ?_)
set_option maxHeartbeats 8000000 in
set_option maxRecDepth 100000 in
theorem hmac_Expand.calls (k : Nat) (a0 : ByteArray) (a1 : ByteArray) (a2 : Int) (r1 : ByteArray) (r2 : Int) (w : World) (hG_ : Go.Proofs.YtgbhjkkfleeodaaDoor.Sha.SL w) (h : hmac_Expand.f k a0 a1 a2 = some (r1, r2)) :
  Calls Tryd.prog 40 #[.string a0, .string a1, .int .i64 a2] w fun e w' => e = .returned (.tuple #[.string r1, .int .i64 r2]) ∧ Below w.heap.size w w' := by
 have HG_ := zM hG_
 clear hG_
 have HB := zM (Below.refl w.heap.size w)
 have H : (if a2 < 0 then (hmac_Expand.j0 k a0 a1 a2 true) else (hmac_Expand.j0 k a0 a1 a2 (decide (a2 > 8160)))) = some (r1, r2) := h
 clear h
 have HC4 := zM H
 clear H
 go_enter Tryd.func40, Tryd.ntmps40
 go_upto_region 1 with (fail)
 go_cut [16] (fun v16 wc => ∃ (kq : Nat) (x16_3 : Bool), v16 = .bool x16_3 ∧ Aside0 (hmac_Expand.j0 kq a0 a1 a2 x16_3 = some (r1, r2)) ∧ Aside0 (kq ≤ k) ∧ Aside0 (Below w.heap.size w wc))
 case first =>
  have H := HC4.out
  clear HC4
  by_cases c5 : a2 < 0
  ·rw [if_pos c5] at H
   have c5b0 : decide (a2 < 0) = true := decide_eq_true c5
   clear c5
   (first | rw [c5b0] | (simp only [i64_w, i32_w]; rw [c5b0]) | skip)
   have H' := zM H
   clear H
   go_wp2
   go_meet
   case rel => exact ⟨_, (true), (by first | rfl | (simp; done) | (simp [*]; done)), H', ⟨by first | omega | exact Nat.le_refl _⟩, ⟨by repeat (first | (with_reducible first | exact HB.out | apply zL | apply zP | apply zW) | exact HB.out)⟩⟩
  ·rw [if_neg c5] at H
   have c5b0 : decide (a2 < 0) = false := decide_eq_false c5
   clear c5
   (first | rw [c5b0] | (simp only [i64_w, i32_w]; rw [c5b0]) | skip)
   have H' := zM H
   clear H
   go_wp2
   go_meet
   case rel => exact ⟨_, (decide (a2 > 8160)), (by first | rfl | (simp; done) | (simp [*]; done)), H', ⟨by first | omega | exact Nat.le_refl _⟩, ⟨by repeat (first | (with_reducible first | exact HB.out | apply zL | apply zP | apply zW) | exact HB.out)⟩⟩
 case rest =>
  clear HC4
  try clear p2
  try clear c4
  try clear c5
  try clear c5b0
  obtain ⟨kq, x16_3, rfl, HA, HJ3, HB⟩ := hcut
  cases kq with
  | zero => exact absurd HA.out (by simp [hmac_Expand.j0])
  | succ kj3 =>
   have H := HA.out
   clear HA
   simp only [hmac_Expand.j0] at H
   by_cases c6 : x16_3 = true
   ·subst c6
    have H1 : (some ((⟨#[]⟩ : ByteArray), 1)) = some (r1, r2) := by rw [if_pos rfl] at H; exact H
    clear H
    have H := H1
    clear H1
    simp only [Option.some.injEq, Prod.mk.injEq] at H
    obtain ⟨rfl, rfl⟩ := H
    go_wp2
    go_ret2
    exact ⟨by first | rfl | (simp [errW_none, errW_some] <;> rfl) | (simp [*, errW_none, errW_some] <;> rfl), by repeat (first | (with_reducible first | exact HB.out | apply zL | apply zP | apply zW) | exact HB.out)⟩
   ·replace c6 := Bool.eq_false_iff.mpr c6
    subst c6
    have H1 : (hmac_Expand.l0 kj3 a0 a1 a2 (⟨#[]⟩ : ByteArray) (⟨#[]⟩ : ByteArray) 1) = some (r1, r2) := by rw [if_neg (show ¬ (false = true) by decide)] at H; exact H
    clear H
    have H := H1
    clear H1
    have H' := zM H
    clear H
    go_wp2
    go_loopg [8, 9, 10] kj3 (fun kq v8 v9 v10 w' => ∃ (x8_2 : ByteArray) (x9_2 : ByteArray) (x10_2 : Int), v8 = .string x8_2 ∧ v9 = .string x9_2 ∧ v10 = .int .u8 x10_2 ∧ Aside0 (hmac_Expand.l0 kq a0 a1 a2 x8_2 x9_2 x10_2 = some (r1, r2)) ∧ Aside0 (kq ≤ kj3) ∧ Aside0 (Below w.heap.size w w'))
    case atStart => exact ⟨((⟨#[]⟩ : ByteArray)), ((⟨#[]⟩ : ByteArray)), (1), (by first | rfl | (simp; done) | (simp [*]; done)), (by first | rfl | (simp; done) | (simp [*]; done)), (by first | rfl | (simp; done) | (simp [*]; done)), H', ⟨Nat.le_refl _⟩, ⟨by repeat (first | (with_reducible first | exact HB.out | apply zL | apply zP | apply zW) | exact HB.out)⟩⟩
    case round =>
     clear H'
     try clear p2
     try clear c4
     try clear c5
     try clear c5b0
     try clear c6
     try clear p2
     obtain ⟨x8_2, x9_2, x10_2, rfl, rfl, rfl, HA, HK2, HB⟩ := hrel
     cases gk with
     | zero => exact absurd HA.out (by simp [hmac_Expand.l0])
     | succ k2 =>
      have H := HA.out
      clear HA
      simp only [hmac_Expand.l0] at H
      by_cases c7 : (x8_2.size : Int) < a2
      ·rw [if_pos c7] at H
       have c7b0 : decide ((x8_2.size : Int) < a2) = true := decide_eq_true c7
       clear c7
       by_cases c8 : x9_2.size + a1.size ≤ 9223372036854775807
       ·rw [if_pos c8] at H
        have c8b0 := eq_true c8
        have c8b1 : decide (x9_2.size + a1.size ≤ 9223372036854775807) = true := decide_eq_true c8
        try have c8b2 : (9223372036854775807 < x9_2.size + a1.size) = False := eq_false (Nat.not_lt.2 c8)
        obtain ⟨y116, hy116⟩ : ∃ y_ : List Int, y_ = (([x10_2] : List Int)) := ⟨_, rfl⟩
        replace H : (if (x9_2 ++ a1).size + (strOfNums y116).size ≤ 9223372036854775807 then ((hmac_Tag.f a0 ((x9_2 ++ a1) ++ (strOfNums y116))).bind fun t119 => (if x8_2.size + t119.size ≤ 9223372036854775807 then (hmac_Expand.l0 k2 a0 a1 a2 (x8_2 ++ t119) t119 ((x10_2 + 1) % 256)) else (none))) else (none)) = some (r1, r2) := by first | (rw [hy116]; with_reducible exact H) | (have H2_ := (Option.bind_some _ _).symm.trans H; rw [hy116]; with_reducible exact H2_) | (have H2_ := (Option.bind_some _ _).symm.trans H; with_reducible exact H2_) | with_reducible exact H | (rw [hy116]; exact H) | exact H
        have Ny116 := zM hy116
        clear hy116
        by_cases c9 : (x9_2 ++ a1).size + (strOfNums y116).size ≤ 9223372036854775807
        ·rw [if_pos c9] at H
         have c9b0 := eq_true c9
         have c9w : IntKind.u64.wrap ((x9_2 ++ a1).size + (strOfNums y116).size : Int) = ((x9_2 ++ a1).size + (strOfNums y116).size : Int) := by simp only [IntKind.wrap, IntKind.bits, IntKind.signed]; simp; omega
         have c9b1 : decide ((x9_2 ++ a1).size + (strOfNums y116).size ≤ 9223372036854775807) = true := decide_eq_true c9
         try have c9b2 : (9223372036854775807 < (x9_2 ++ a1).size + (strOfNums y116).size) = False := eq_false (Nat.not_lt.2 c9)
         have c9q := c9
         simp only [ByteArray.size_append] at c9q
         have c9b9 := eq_false (Nat.not_lt.2 c9q)
         clear c9q
         replace H := Option.bind_eq_some_iff.mp H
         obtain ⟨t119, A100, H⟩ := H
         replace H : (if x8_2.size + t119.size ≤ 9223372036854775807 then (hmac_Expand.l0 k2 a0 a1 a2 (x8_2 ++ t119) t119 ((x10_2 + 1) % 256)) else (none)) = some (r1, r2) := H
         have A10 := zM A100
         clear A100
         by_cases c11 : x8_2.size + t119.size ≤ 9223372036854775807
         ·rw [if_pos c11] at H
          have c11b0 := eq_true c11
          have c11b1 : decide (x8_2.size + t119.size ≤ 9223372036854775807) = true := decide_eq_true c11
          try have c11b2 : (9223372036854775807 < x8_2.size + t119.size) = False := eq_false (Nat.not_lt.2 c11)
          have H' := zM H
          clear H
          go_wp2_with (first | ((with_reducible refine gate_dst (N := 28) rfl ?_); refine Kd.R_lit (Kd.int .u8) _ 5 ?hg (N := 28) ?hd (xs := ([x10_2] : List Int)) (inner := [.int .u8 x10_2]) (ok := fun _ => True) (okp := fun _ => True) ?hr ?hp (fun _ hk => hk) trivial (Below.refl _ _) (Nat.le_refl _) (by simp) ?_; (case hd => rfl); (case hg => rfl); (case hr => first | (go_simp; done) | (go_simp; rfl)); (case hp => exact (Reps.one (show Kd.M (Kd.int .u8) _ _ _ x10_2 [.int .u8 x10_2] from rfl) (Reps.none _ _))); intro v117 w12 ho13 hb hg_ hnew_; clear hg_ hnew_; (first | rw [← Ny116.out] at ho13 | (simp only [Int.reduceToNat] at ho13; rw [← Ny116.out] at ho13)); have n0_ := zM (Kd.R_lower ho13 (below_size (by repeat (first | (with_reducible first | exact HB.out | apply zL | apply zP | apply zW) | exact HB.out)))); have n1_ := zM (below_step (by repeat (first | (with_reducible first | exact HB.out | apply zL | apply zP | apply zW) | exact HB.out)) hb); clear HB; have HO118 := n0_; have HB := n1_; clear n0_ n1_; clear hb ho13; have hcv14 := own_string (P := Tryd.prog) Tryd.underlying34 Tryd.underlying5 Tryd.underlying9 (Kd.own_of_R HO118.out)) | ((with_reducible refine gate_callee (f := 62) rfl ?_); refine goesL_ (some 31) rfl rfl Tryd.func62 (by kernel_rfl) rfl #[.string a0, .string ((x9_2 ++ a1) ++ (strOfNums y116))] rfl (by (try simp only [zY, List.map_cons, List.map_nil]); first | done | rfl | (simp only [zV, zX]; rfl)) ?_; (with_reducible refine (hmac_Tag.calls a0 ((x9_2 ++ a1) ++ (strOfNums y116)) t119 _ ?side1 A10.out).mono ?_); (case side1 => exact Go.Proofs.YtgbhjkkfleeodaaDoor.Sha.SL.below HG_.out (by repeat (first | (with_reducible first | exact HB.out | apply zL | apply zP | apply zW) | exact HB.out))); rintro e w15 ⟨rfl, hb⟩; refine ⟨_, rfl, ?_⟩; have n0_ := zM (Kd.R_below (by (with_reducible repeat (first | apply Kd.R_alloc | apply Kd.R_drewN | apply Kd.R_drew)); exact HO118.out) hb); have n1_ := zM (below_step (by repeat (first | (with_reducible first | exact HB.out | apply zL | apply zP | apply zW) | exact HB.out)) hb); clear HO118; clear HB; have HO118 := n0_; have HB := n1_; clear n0_ n1_; (try clear hb); (try clear hb2); (try clear hk); (try clear hi)))
          go_roundg k2
          case measure => have := HJ3.out; have := HK2.out; omega
          case rel => exact ⟨(x8_2 ++ t119), (t119), ((x10_2 + 1) % 256), (by first | rfl | (simp; done) | (simp [*]; done)), (by first | rfl | (simp; done) | (simp [*]; done)), (by first | rfl | (simp; done) | (simp [*]; done)), H', ⟨by have := HJ3.out; have := HK2.out; omega⟩, ⟨by repeat (first | (with_reducible first | exact HB.out | apply zL | apply zP | apply zW) | exact HB.out)⟩⟩
         ·rw [if_neg c11] at H
          exact absurd H (by simp)
        ·rw [if_neg c9] at H
         exact absurd H (by simp)
       ·rw [if_neg c8] at H
        exact absurd H (by simp)
      ·rw [if_neg c7] at H
       have c7b0 : decide ((x8_2.size : Int) < a2) = false := decide_eq_false c7
       clear c7
       by_cases c16 : 0 ≤ a2
       ·rw [if_pos c16] at H
        have c16b0 := eq_true c16
        have c16b1 : decide (0 ≤ a2) = true := decide_eq_true c16
        clear c16
        by_cases c17 : a2 ≤ (x8_2.size : Int)
        ·rw [if_pos c17] at H
         have c17b0 := eq_true c17
         have c17b1 : decide (a2 ≤ (x8_2.size : Int)) = true := decide_eq_true c17
         clear c17
         simp only [Option.some.injEq, Prod.mk.injEq] at H
         obtain ⟨rfl, rfl⟩ := H
         go_wp2
         go_ret2
         exact ⟨by first | rfl | (simp [errW_none, errW_some] <;> rfl) | (simp [*, errW_none, errW_some] <;> rfl), by repeat (first | (with_reducible first | exact HB.out | apply zL | apply zP | apply zW) | exact HB.out)⟩
        ·rw [if_neg c17] at H
         exact absurd H (by simp)
       ·rw [if_neg c16] at H
        exact absurd H (by simp)
def hmac_Extract.f (a0 : ByteArray) (a1 : ByteArray) : Option (ByteArray) := (hmac_Tag.f a0 a1).bind fun t120 => (some t120)
set_option maxHeartbeats 8000000 in
set_option maxRecDepth 100000 in
theorem hmac_Extract.calls (a0 : ByteArray) (a1 : ByteArray) (r : ByteArray) (w : World) (hG_ : Go.Proofs.YtgbhjkkfleeodaaDoor.Sha.SL w) (h : hmac_Extract.f a0 a1 = some r) :
  Calls Tryd.prog 41 #[.string a0, .string a1] w fun e w' => e = .returned (.string r) ∧ Below w.heap.size w w' := by
 have HG_ := zM hG_
 clear hG_
 have HB := zM (Below.refl w.heap.size w)
 have H : ((hmac_Tag.f a0 a1).bind fun t120 => (some t120)) = some r := h
 clear h
 replace H := Option.bind_eq_some_iff.mp H
 obtain ⟨t120, A30, H⟩ := H
 replace H : (some t120) = some r := H
 have A3 := zM A30
 clear A30
 obtain rfl := Option.some.inj H
 go_enter Tryd.func41, Tryd.ntmps41
 go_wp2_with (first | ((with_reducible refine gate_callee (f := 62) rfl ?_); refine goesL_ (some 7) rfl rfl Tryd.func62 (by kernel_rfl) rfl #[.string a0, .string a1] rfl (by (try simp only [zY, List.map_cons, List.map_nil]); first | done | rfl | (simp only [zV, zX]; rfl)) ?_; (with_reducible refine (hmac_Tag.calls a0 a1 t120 _ ?side1 A3.out).mono ?_); (case side1 => exact Go.Proofs.YtgbhjkkfleeodaaDoor.Sha.SL.below HG_.out (by repeat (first | (with_reducible first | exact HB.out | apply zL | apply zP | apply zW) | exact HB.out))); rintro e w4 ⟨rfl, hb⟩; refine ⟨_, rfl, ?_⟩; have n0_ := zM (below_step (by repeat (first | (with_reducible first | exact HB.out | apply zL | apply zP | apply zW) | exact HB.out)) hb); clear HB; have HB := n0_; clear n0_; (try clear hb); (try clear hb2); (try clear hk); (try clear hi)))
 go_ret
 exact ⟨by first | rfl | (simp [errW_none, errW_some] <;> rfl) | (simp [*, errW_none, errW_some] <;> rfl), by repeat (first | (with_reducible first | exact HB.out | apply zL | apply zP | apply zW) | exact HB.out)⟩
def keys_Of.f (k : Nat) (a0 : ByteArray) (a1 : Int) : Option (ByteArray × ByteArray) := (hmac_Extract.f (⟨#[108, 111, 100, 101, 115, 116, 111, 110, 101]⟩ : ByteArray) a0).bind fun t122 => ((code_Small.f a1).bind fun t123 => (if 5 + t123.size ≤ 9223372036854775807 then ((hmac_Expand.f k t122 ((⟨#[101, 112, 111, 99, 104]⟩ : ByteArray) ++ t123) 64).bind fun bt124 => (if 0 ≤ 32 then (if 32 ≤ (bt124.1.size : Int) then (some (bt124.1.extract 0 32, bt124.1.extract 32 bt124.1.size)) else (none)) else (none))) else (none)))
theorem keys_Of.mono : ∀ a0 a1 k, LeO (keys_Of.f k a0 a1) (keys_Of.f (k + 1) a0 a1) := by
 intro a0 a1 k
 unfold keys_Of.f
 repeat' first
   | (with_reducible exact hmac_Expand.mono _ _ _ _)
   | (with_reducible exact LeO.refl _)
   | (with_reducible exact LeO.none _)
   | (with_reducible refine LeO.ite ?_ ?_)
   | (with_reducible refine LeO.bind ?_ (fun _ => ?_))
   | exact hmac_Expand.mono _ _ _ _
   | exact LeO.none _
   | refine LeO.ite ?_ ?_
   | refine LeO.bind ?_ (fun _ => ?_)
set_option maxHeartbeats 8000000 in
set_option maxRecDepth 100000 in
theorem keys_Of.calls (k : Nat) (a0 : ByteArray) (a1 : Int) (r1 : ByteArray) (r2 : ByteArray) (w : World) (hG_ : Go.Proofs.YtgbhjkkfleeodaaDoor.Sha.SL w) (h : keys_Of.f k a0 a1 = some (r1, r2)) :
  Calls Tryd.prog 18 #[.string a0, .int .u32 a1] w fun e w' => e = .returned (.agg #[.string r1, .string r2]) ∧ Below w.heap.size w w' := by
 have HG_ := zM hG_
 clear hG_
 have hu49 := Tryd.underlying49
 have HB := zM (Below.refl w.heap.size w)
 have H : ((hmac_Extract.f (⟨#[108, 111, 100, 101, 115, 116, 111, 110, 101]⟩ : ByteArray) a0).bind fun t122 => ((code_Small.f a1).bind fun t123 => (if 5 + t123.size ≤ 9223372036854775807 then ((hmac_Expand.f k t122 ((⟨#[101, 112, 111, 99, 104]⟩ : ByteArray) ++ t123) 64).bind fun bt124 => (if 0 ≤ 32 then (if 32 ≤ (bt124.1.size : Int) then (some (bt124.1.extract 0 32, bt124.1.extract 32 bt124.1.size)) else (none)) else (none))) else (none)))) = some (r1, r2) := h
 clear h
 replace H := Option.bind_eq_some_iff.mp H
 obtain ⟨t122, A30, H⟩ := H
 replace H : ((code_Small.f a1).bind fun t123 => (if 5 + t123.size ≤ 9223372036854775807 then ((hmac_Expand.f k t122 ((⟨#[101, 112, 111, 99, 104]⟩ : ByteArray) ++ t123) 64).bind fun bt124 => (if 0 ≤ 32 then (if 32 ≤ (bt124.1.size : Int) then (some (bt124.1.extract 0 32, bt124.1.extract 32 bt124.1.size)) else (none)) else (none))) else (none))) = some (r1, r2) := H
 have A3 := zM A30
 clear A30
 replace H := Option.bind_eq_some_iff.mp H
 obtain ⟨t123, A40, H⟩ := H
 replace H : (if 5 + t123.size ≤ 9223372036854775807 then ((hmac_Expand.f k t122 ((⟨#[101, 112, 111, 99, 104]⟩ : ByteArray) ++ t123) 64).bind fun bt124 => (if 0 ≤ 32 then (if 32 ≤ (bt124.1.size : Int) then (some (bt124.1.extract 0 32, bt124.1.extract 32 bt124.1.size)) else (none)) else (none))) else (none)) = some (r1, r2) := H
 have A4 := zM A40
 clear A40
 by_cases c5 : 5 + t123.size ≤ 9223372036854775807
 ·rw [if_pos c5] at H
  have c5b0 := eq_true c5
  have c5b1 : decide (5 + t123.size ≤ 9223372036854775807) = true := decide_eq_true c5
  try have c5b2 : (9223372036854775807 < 5 + t123.size) = False := eq_false (Nat.not_lt.2 c5)
  replace H := Option.bind_eq_some_iff.mp H
  obtain ⟨⟨t124, t125⟩, A60, H⟩ := H
  replace H : (if 0 ≤ 32 then (if 32 ≤ (t124.size : Int) then (some (t124.extract 0 32, t124.extract 32 t124.size)) else (none)) else (none)) = some (r1, r2) := H
  have A6 := zM A60
  clear A60
  by_cases c7 : 0 ≤ 32
  ·rw [if_pos c7] at H
   have c7b0 := eq_true c7
   have c7b1 : decide (0 ≤ 32) = true := decide_eq_true c7
   clear c7
   by_cases c8 : 32 ≤ (t124.size : Int)
   ·rw [if_pos c8] at H
    have c8b0 := eq_true c8
    have c8b1 : decide (32 ≤ (t124.size : Int)) = true := decide_eq_true c8
    clear c8
    have c9b0 := eq_true (of_decide_eq_true (by first | (with_reducible assumption) | assumption) : 32 ≤ (t124.size : Int))
    simp only [Option.some.injEq, Prod.mk.injEq] at H
    obtain ⟨rfl, rfl⟩ := H
    go_enter Tryd.func18, Tryd.ntmps18
    try go_wp2_with (first | ((with_reducible refine gate_dst (N := 4) rfl ?_); refine box_event ?hg (N := 4) ?hd (cs := #[.string (⟨#[]⟩ : ByteArray), .string (⟨#[]⟩ : ByteArray)]) (t := 49) ?hr ?_; (case hd => rfl); (case hg => rfl); (case hr => first | (go_simp; done) | (go_simp; rfl)); intro gb121 hg w10 hbox hb; have n0_ := zM (below_step (by repeat (first | (with_reducible first | exact HB.out | apply zL | apply zP | apply zW) | exact HB.out)) hb); have n1_ := zM (hbox); have n2_ := zM ((by rw [hg]; exact (below_size (by repeat (first | (with_reducible first | exact HB.out | apply zL | apply zP | apply zW) | exact HB.out))) : w.heap.size ≤ gb121)); have n3_ := zM ((by rw [hg]; exact (below_size (by repeat (first | (with_reducible first | exact HB.out | apply zL | apply zP | apply zW) | exact HB.out))) : w.heap.size ≤ gb121)); clear HB; have HB := n0_; have BK121 := n1_; have GW121 := n2_; have GE121 := n3_; clear n0_ n1_ n2_ n3_; clear hb hbox hg) | ((with_reducible refine gate_callee (f := 41) rfl ?_); refine goesL_ (some 9) rfl rfl Tryd.func41 (by kernel_rfl) rfl #[.string (⟨#[108, 111, 100, 101, 115, 116, 111, 110, 101]⟩ : ByteArray), .string a0] rfl (by (try simp only [zY, List.map_cons, List.map_nil]); first | done | rfl | (simp only [zV, zX]; rfl)) ?_; (with_reducible refine (hmac_Extract.calls (⟨#[108, 111, 100, 101, 115, 116, 111, 110, 101]⟩ : ByteArray) a0 t122 _ ?side1 A3.out).mono ?_); (case side1 => exact Go.Proofs.YtgbhjkkfleeodaaDoor.Sha.SL.below HG_.out (by repeat (first | (with_reducible first | exact HB.out | apply zL | apply zP | apply zW | refine zS ?_ GE121.out) | exact HB.out))); rintro e w11 ⟨rfl, hb⟩; refine ⟨_, rfl, ?_⟩; have n0_ := zM (zB (g := gb121) (o := .cells #[.string (⟨#[]⟩ : ByteArray), .string (⟨#[]⟩ : ByteArray)] 49 (0, 0)) (by (with_reducible repeat (first | refine zN ?_ _ | refine zD ?_ | refine zA ?_ _)); exact BK121.out) hb); have n1_ := zM (below_step (by repeat (first | (with_reducible first | exact HB.out | apply zL | apply zP | apply zW | refine zS ?_ GE121.out) | exact HB.out)) hb); clear BK121; clear HB; have BK121 := n0_; have HB := n1_; clear n0_ n1_; (try clear hb); (try clear hb2); (try clear hk); (try clear hi)) | ((with_reducible refine gate_callee (f := 14) rfl ?_); refine goesL_ (some 11) rfl rfl Tryd.func14 (by kernel_rfl) rfl #[.int .u32 a1] rfl (by (try simp only [zY, List.map_cons, List.map_nil]); first | done | rfl | (simp only [zV, zX]; rfl)) ?_; (with_reducible refine (code_Small.calls a1 t123 _ A4.out).mono ?_); rintro e w12 ⟨rfl, hb⟩; refine ⟨_, rfl, ?_⟩; have n0_ := zM (zB (g := gb121) (o := .cells #[.string (⟨#[]⟩ : ByteArray), .string (⟨#[]⟩ : ByteArray)] 49 (0, 0)) (by (with_reducible repeat (first | refine zN ?_ _ | refine zD ?_ | refine zA ?_ _)); exact BK121.out) hb); have n1_ := zM (below_step (by repeat (first | (with_reducible first | exact HB.out | apply zL | apply zP | apply zW | refine zS ?_ GE121.out) | exact HB.out)) hb); clear BK121; clear HB; have BK121 := n0_; have HB := n1_; clear n0_ n1_; (try clear hb); (try clear hb2); (try clear hk); (try clear hi)) | ((with_reducible refine gate_callee (f := 40) rfl ?_); refine goesL_ (some 13) rfl rfl Tryd.func40 (by kernel_rfl) rfl #[.string t122, .string ((⟨#[101, 112, 111, 99, 104]⟩ : ByteArray) ++ t123), .int .i64 64] rfl (by (try simp only [zY, List.map_cons, List.map_nil]); first | done | rfl | (simp only [zV, zX]; rfl)) ?_; (with_reducible refine (hmac_Expand.calls k t122 ((⟨#[101, 112, 111, 99, 104]⟩ : ByteArray) ++ t123) 64 t124 t125 _ ?side1 A6.out).mono ?_); (case side1 => exact Go.Proofs.YtgbhjkkfleeodaaDoor.Sha.SL.below HG_.out (by repeat (first | (with_reducible first | exact HB.out | apply zL | apply zP | apply zW | refine zS ?_ GE121.out) | exact HB.out))); rintro e w13 ⟨rfl, hb⟩; refine ⟨_, rfl, ?_⟩; have n0_ := zM (zB (g := gb121) (o := .cells #[.string (⟨#[]⟩ : ByteArray), .string (⟨#[]⟩ : ByteArray)] 49 (0, 0)) (by (with_reducible repeat (first | refine zN ?_ _ | refine zD ?_ | refine zA ?_ _)); exact BK121.out) hb); have n1_ := zM (below_step (by repeat (first | (with_reducible first | exact HB.out | apply zL | apply zP | apply zW | refine zS ?_ GE121.out) | exact HB.out)) hb); clear BK121; clear HB; have BK121 := n0_; have HB := n1_; clear n0_ n1_; (try clear hb); (try clear hb2); (try clear hk); (try clear hi)))
    have n0_ := zM (zD BK121.out)
    have n1_ := zM (zW HB.out)
    clear BK121
    clear HB
    have BK121 := n0_
    have HB := n1_
    clear n0_ n1_
    refine start_ (n := 6) (S := fun w' => True) (ds := []) #[false, false, false, false, false, false] (by kernel_rfl) rfl rfl trivial (fun hHeld => ?_)
    generalize w13.drew = w14 at BK121 HB hHeld ⊢
    refine pure_ (i := 0) (N := some 16) (v := ?_) (a' := ?_) #[true, false, false, false, false, false] rfl rfl (by kernel_rfl) (fun _ _ _ h => h) (Or.inl ⟨by rfl, ?_⟩) ?_ ?_
    rotate_left
    ·intro w'
     go_simp
     with_reducible rfl
    rotate_left
    ·simp only [Act.put, zT, zZ, zU, i64_w, i32_w]
     rfl
    refine pure_ (i := 1) (N := some 17) (v := ?_) (a' := ?_) #[true, true, false, false, false, false] rfl rfl (by kernel_rfl) (fun _ _ _ h => h) (Or.inl ⟨by rfl, ?_⟩) ?_ ?_
    rotate_left
    ·intro w'
     go_simp
     with_reducible rfl
    rotate_left
    ·simp only [Act.put, zT, zZ, zU, i64_w, i32_w]
     rfl
    refine pure_ (i := 2) (N := some 18) (v := ?_) (a' := ?_) #[true, true, true, false, false, false] rfl rfl (by kernel_rfl) (fun _ _ _ h => h) (Or.inl ⟨by rfl, ?_⟩) ?_ ?_
    rotate_left
    ·intro w'
     go_simp
     with_reducible rfl
    rotate_left
    ·simp only [Act.put, zT, zZ, zU, i64_w, i32_w]
     rfl
    refine pure_ (i := 3) (N := some 19) (v := ?_) (a' := ?_) #[true, true, true, true, false, false] rfl rfl (by kernel_rfl) (fun _ _ _ h => h) (Or.inl ⟨by rfl, ?_⟩) ?_ ?_
    rotate_left
    ·intro w'
     go_simp
     with_reducible rfl
    rotate_left
    ·simp only [Act.put, zT, zZ, zU, i64_w, i32_w]
     rfl
    refine pure_ (i := 4) (N := some 20) (v := ?_) (a' := ?_) #[true, true, true, true, true, false] rfl rfl (by kernel_rfl) (fun _ _ _ h => h) (Or.inl ⟨by rfl, ?_⟩) ?_ ?_
    rotate_left
    ·intro w'
     go_simp
     with_reducible rfl
    rotate_left
    ·simp only [Act.put, zT, zZ, zU, i64_w, i32_w]
     rfl
    refine one_ (i := 5) (N := none) #[true, true, true, true, true, true] rfl rfl (by kernel_rfl) (by decide) (fun K hK => ?_)
    have hs15 : w14.cell? ⟨gb121, 0, none⟩ = some (.string (⟨#[]⟩ : ByteArray)) := (zC BK121.out 0).trans rfl
    have hfs15 := zF BK121.out 0
    have hs16 : w14.cell? ⟨gb121, 1, none⟩ = some (.string (⟨#[]⟩ : ByteArray)) := (zC BK121.out 1).trans rfl
    have hfs16 := zF BK121.out 1
    refine skip_ (w1 := ?_) (by rfl) rfl ?_ ?_
    rotate_left
    ·go_simp
     rfl
    refine hK.out _ _ trivial (fun hHeld => ?_)
    clear hK K
    refine done_ (by kernel_rfl) ?_
    try go_wp2
    refine bodyPost_ret (results_cell_row rfl _ _ gb121 49 #[.string (t124.extract 0 32), .string (t124.extract 32 t124.size)] (0, 0) _ rfl (by (with_reducible repeat (first | refine zN ?_ _ | refine zD ?_ | refine zA ?_ _)); refine blk_put (cs := #[.string (t124.extract 0 32), .string (⟨#[]⟩ : ByteArray)]) ?_ 1 _ rfl; (with_reducible repeat (first | refine zN ?_ _ | refine zD ?_ | refine zA ?_ _)); refine blk_put (cs := #[.string (⟨#[]⟩ : ByteArray), .string (⟨#[]⟩ : ByteArray)]) ?_ 0 _ rfl; (with_reducible repeat (first | refine zN ?_ _ | refine zD ?_ | refine zA ?_ _)); exact BK121.out) Tryd.underlying49 rfl (by kernel_rfl)) rfl ?_
    exact ⟨by first | rfl | (simp [errW_none, errW_some] <;> rfl) | (simp [*, errW_none, errW_some] <;> rfl), by repeat (first | (with_reducible first | exact HB.out | apply zL | apply zP | apply zW | refine zS ?_ GE121.out) | exact HB.out)⟩
   ·rw [if_neg c8] at H
    exact absurd H (by simp)
  ·rw [if_neg c7] at H
   exact absurd H (by simp)
 ·rw [if_neg c5] at H
  exact absurd H (by simp)
end Go.Proofs.YtgbhjkkfleeodaaDoor.PBlockPuts
