import Derived.Test.YtgbhjkkfleeodaaDoorPBlockPutsx0
import Derived.Test.YtgbhjkkfleeodaaDoorPBlockPutsx1
import Derived.Test.YtgbhjkkfleeodaaDoorPBlockPutsx3
import Derived.Test.YtgbhjkkfleeodaaDoorPBlockPutsx4
import Derived.Test.YtgbhjkkfleeodaaDoorPBlockPutsx5
import Derived.Test.YtgbhjkkfleeodaaDoorPBlockPutsx6
import Derived.Test.YtgbhjkkfleeodaaDoorXB
namespace Go.Proofs.YtgbhjkkfleeodaaDoor.PBlockPuts
open Go.RowKit Go.Proofs.YtgbhjkkfleeodaaDoorW.PrintWords Go.Proofs.YtgbhjkkfleeodaaDoorW.PrintLast Go.Proofs.YtgbhjkkfleeodaaDoorW.PrintMore
open Go.Proofs.YtgbhjkkfleeodaaDoorW.PrintWords renaming blk_drewN → zN, blk_drew → zD, blk_alloc → zA, blk_cell → zC, blk_frozen → zF, below_set → zS, below_alloc → zL, below_drew1 → zW, pw_below_drewN → zP, blk_below → zB, keep_drewN → zK
open Go.Proofs.YtgbhjkkfleeodaaDoorW.PrintWords.Aside0 renaming mk → zM
open List renaming setIfInBounds_toArray → zT, set_cons_zero → zZ, set_cons_succ → zU, length_drop → zV, length_take → zX, map_toArray → zY
attribute [local go_sem] max2_int min2_int max_two min_two max_three min_three max_four min_four
set_option linter.unusedVariables false
set_option linter.unusedSimpArgs false
set_option linter.unnecessarySimpa false
abbrev zb7_0 : Array Bool := #[false, false, false, false, false, false, false, false, false]
abbrev zb7_1 : Array Bool := #[true, false, false, false, false, false, false, false, false]
abbrev zb7_2 : Array Bool := #[true, false, false, true, false, false, false, false, false]
abbrev zb7_3 : Array Bool := #[true, true, false, true, false, false, false, false, false]
abbrev zb7_4 : Array Bool := #[true, true, false, true, true, false, false, false, false]
attribute [local go_sem high] eqA25
def lodestoneref11_Put.l0 : Nat → Int → ByteArray → ByteArray → ByteArray → ByteArray → Int → Int → Int → Option (ByteArray)
 | 0, _, _, _, _, _, _, _, _ => none
 | k + 1, x2, x9, x10, x11, x12, x203000, x203001, x203002 => if (x12.size : Int) < 464 then (if x12.size + 1 ≤ 9223372036854775807 then (lodestoneref11_Put.l0 k x2 x9 x10 x11 (x12 ++ (⟨#[0]⟩ : ByteArray)) x203000 x203001 x203002) else (none)) else ((lodestoneref04_High.f k (IntKind.u64.wrap (x203000)) 4).bind fun t208 => (if t208.size + x9.size ≤ 9223372036854775807 then ((lodestoneref10_Seal.f k x10 x11 x2 x9 x12).bind fun t209 => (if (t208 ++ x9).size + t209.size ≤ 9223372036854775807 then (some ((t208 ++ x9) ++ t209)) else (none))) else (none)))
theorem lodestoneref11_Put.l0_succ (k : Nat) (x2 : Int) (x9 : ByteArray) (x10 : ByteArray) (x11 : ByteArray) (x12 : ByteArray) (x203000 : Int) (x203001 : Int) (x203002 : Int) : lodestoneref11_Put.l0 (k + 1) x2 x9 x10 x11 x12 x203000 x203001 x203002 = (if (x12.size : Int) < 464 then (if x12.size + 1 ≤ 9223372036854775807 then (lodestoneref11_Put.l0 k x2 x9 x10 x11 (x12 ++ (⟨#[0]⟩ : ByteArray)) x203000 x203001 x203002) else (none)) else ((lodestoneref04_High.f k (IntKind.u64.wrap (x203000)) 4).bind fun t208 => (if t208.size + x9.size ≤ 9223372036854775807 then ((lodestoneref10_Seal.f k x10 x11 x2 x9 x12).bind fun t209 => (if (t208 ++ x9).size + t209.size ≤ 9223372036854775807 then (some ((t208 ++ x9) ++ t209)) else (none))) else (none)))) := rfl
def lodestoneref11_Put.f (k : Nat) (a0 : ByteArray) (a1_0 : Int) (a1_1 : Int) (a1_2 : Int) (a2 : Int) (a3 : ByteArray) : Option (ByteArray) := (lodestoneref04_High.f k a1_1 8).bind fun t203 => ((lodestoneref04_High.f k (IntKind.u64.wrap (a1_2)) 4).bind fun t204 => (if t203.size + t204.size ≤ 9223372036854775807 then ((lodestoneref09_Keys.f k a0 a1_0).bind fun bt205 => (if a3.size ≤ 9223372036854775807 then ((lodestoneref04_High.f k (a3.size : Int) 2).bind fun t207 => (if t207.size + a3.size ≤ 9223372036854775807 then (lodestoneref11_Put.l0 k a2 (t203 ++ t204) bt205.1 bt205.2 (t207 ++ a3) a1_0 a1_1 a1_2) else (none))) else (none))) else (none)))
theorem lodestoneref11_Put.mono_l : ∀ k, (∀ y0 y1 y2 y3 y4 y5 y6 y7, LeO (lodestoneref11_Put.l0 k y0 y1 y2 y3 y4 y5 y6 y7) (lodestoneref11_Put.l0 (k + 1) y0 y1 y2 y3 y4 y5 y6 y7))
 | 0 => fun _ _ _ _ _ _ _ _ r h => by have h2 : (none : Option ByteArray) = some r := h; cases h2
 | k + 1 => by
  have ih0 := lodestoneref11_Put.mono_l k
  ·intro y0 y1 y2 y3 y4 y5 y6 y7
   unfold lodestoneref11_Put.l0
   repeat' first
   | (with_reducible exact ih0 _ _ _ _ _ _ _ _)
   | (with_reducible exact lodestoneref04_High.mono _ _ _)
   | (with_reducible exact lodestoneref09_Keys.mono _ _ _)
   | (with_reducible exact lodestoneref10_Seal.mono _ _ _ _ _ _)
   | (with_reducible exact LeO.refl _)
   | (with_reducible exact LeO.none _)
   | (with_reducible refine LeO.ite ?_ ?_)
   | (with_reducible refine LeO.bind ?_ (fun _ => ?_))
   | exact ih0 _ _ _ _ _ _ _ _
   | exact lodestoneref04_High.mono _ _ _
   | exact lodestoneref09_Keys.mono _ _ _
   | exact lodestoneref10_Seal.mono _ _ _ _ _ _
   | exact LeO.none _
   | refine LeO.ite ?_ ?_
   | refine LeO.bind ?_ (fun _ => ?_)
theorem lodestoneref11_Put.mono : ∀ a0 a1 a2 a3 a4 a5 k, LeO (lodestoneref11_Put.f k a0 a1 a2 a3 a4 a5) (lodestoneref11_Put.f (k + 1) a0 a1 a2 a3 a4 a5) := by
 intro a0 a1 a2 a3 a4 a5 k
 have ih0 := lodestoneref11_Put.mono_l k
 unfold lodestoneref11_Put.f
 repeat' first
   | (with_reducible exact ih0 _ _ _ _ _ _ _ _)
   | (with_reducible exact lodestoneref04_High.mono _ _ _)
   | (with_reducible exact lodestoneref09_Keys.mono _ _ _)
   | (with_reducible exact lodestoneref10_Seal.mono _ _ _ _ _ _)
   | (with_reducible exact LeO.refl _)
   | (with_reducible exact LeO.none _)
   | (with_reducible refine LeO.ite ?_ ?_)
   | (with_reducible refine LeO.bind ?_ (fun _ => ?_))
   | exact ih0 _ _ _ _ _ _ _ _
   | exact lodestoneref04_High.mono _ _ _
   | exact lodestoneref09_Keys.mono _ _ _
   | exact lodestoneref10_Seal.mono _ _ _ _ _ _
   | exact LeO.none _
   | refine LeO.ite ?_ ?_
   | refine LeO.bind ?_ (fun _ => ?_)
def lodestoneref11_Put.T1 : Bool × List (List Nat × List Nat) := (true, [([], []), ([0], [0]), ([1], [1]), ([], []), ([3], [3]), ([4], [4]), ([5, 2], [5]), ([2, 6], [2, 6]), ([7, 6, 0, 1, 2, 3, 4, 5, 6, 7], [7])])
def lodestoneref11_Put.B1 : List Nat := [0, 1, 3, 0, 8, 24, 63, 127, 255]
theorem lodestoneref11_Put.tab1 : rtab .any (opsOf Tryd.f10 1) = lodestoneref11_Put.T1 := by kernel_rfl
theorem lodestoneref11_Put.bits1 : waitsOk lodestoneref11_Put.T1.2 lodestoneref11_Put.B1 = true := by kernel_rfl
set_option maxHeartbeats 8000000 in
set_option maxRecDepth 100000 in
theorem lodestoneref11_Put.calls (k : Nat) (a0 : ByteArray) (a1_0 : Int) (a1_1 : Int) (a1_2 : Int) (a2 : Int) (a3 : ByteArray) (r : ByteArray) (w : World) (h : lodestoneref11_Put.f k a0 a1_0 a1_1 a1_2 a2 a3 = some r) :
  Calls Tryd.prog 10 #[.string a0, .agg #[.int .u32 a1_0, .int .u64 a1_1, .int .u32 a1_2], .int .i64 a2, .string a3] w fun e w' => e = .returned (.string r) ∧ Below w.heap.size w w' := by
 have hu25 := Tryd.underlying25
 have HB := zM (Below.refl w.heap.size w)
 have H : ((lodestoneref04_High.f k a1_1 8).bind fun t203 => ((lodestoneref04_High.f k (IntKind.u64.wrap (a1_2)) 4).bind fun t204 => (if t203.size + t204.size ≤ 9223372036854775807 then ((lodestoneref09_Keys.f k a0 a1_0).bind fun bt205 => (if a3.size ≤ 9223372036854775807 then ((lodestoneref04_High.f k (a3.size : Int) 2).bind fun t207 => (if t207.size + a3.size ≤ 9223372036854775807 then (lodestoneref11_Put.l0 k a2 (t203 ++ t204) bt205.1 bt205.2 (t207 ++ a3) a1_0 a1_1 a1_2) else (none))) else (none))) else (none)))) = some r := h
 clear h
 replace H := Option.bind_eq_some_iff.mp H
 obtain ⟨t203, A50, H⟩ := H
 replace H : ((lodestoneref04_High.f k (IntKind.u64.wrap (a1_2)) 4).bind fun t204 => (if t203.size + t204.size ≤ 9223372036854775807 then ((lodestoneref09_Keys.f k a0 a1_0).bind fun bt205 => (if a3.size ≤ 9223372036854775807 then ((lodestoneref04_High.f k (a3.size : Int) 2).bind fun t207 => (if t207.size + a3.size ≤ 9223372036854775807 then (lodestoneref11_Put.l0 k a2 (t203 ++ t204) bt205.1 bt205.2 (t207 ++ a3) a1_0 a1_1 a1_2) else (none))) else (none))) else (none))) = some r := H
 have A5 := zM A50
 clear A50
 replace H := Option.bind_eq_some_iff.mp H
 obtain ⟨t204, A60, H⟩ := H
 replace H : (if t203.size + t204.size ≤ 9223372036854775807 then ((lodestoneref09_Keys.f k a0 a1_0).bind fun bt205 => (if a3.size ≤ 9223372036854775807 then ((lodestoneref04_High.f k (a3.size : Int) 2).bind fun t207 => (if t207.size + a3.size ≤ 9223372036854775807 then (lodestoneref11_Put.l0 k a2 (t203 ++ t204) bt205.1 bt205.2 (t207 ++ a3) a1_0 a1_1 a1_2) else (none))) else (none))) else (none)) = some r := H
 have A6 := zM A60
 clear A60
 by_cases c7 : t203.size + t204.size ≤ 9223372036854775807
 ·rw [if_pos c7] at H
  have c7b0 := eq_true c7
  have c7b1 : decide (t203.size + t204.size ≤ 9223372036854775807) = true := decide_eq_true c7
  try have c7b2 : (9223372036854775807 < t203.size + t204.size) = False := eq_false (Nat.not_lt.2 c7)
  replace H := Option.bind_eq_some_iff.mp H
  obtain ⟨⟨t205, t206⟩, A80, H⟩ := H
  replace H : (if a3.size ≤ 9223372036854775807 then ((lodestoneref04_High.f k (a3.size : Int) 2).bind fun t207 => (if t207.size + a3.size ≤ 9223372036854775807 then (lodestoneref11_Put.l0 k a2 (t203 ++ t204) t205 t206 (t207 ++ a3) a1_0 a1_1 a1_2) else (none))) else (none)) = some r := H
  have A8 := zM A80
  clear A80
  by_cases c9 : a3.size ≤ 9223372036854775807
  ·rw [if_pos c9] at H
   have c9b0 := eq_true c9
   have c9w : IntKind.u64.wrap (a3.size : Int) = (a3.size : Int) := by simp only [IntKind.wrap, IntKind.bits, IntKind.signed]; simp; omega
   have c9b1 : decide (a3.size ≤ 9223372036854775807) = true := decide_eq_true c9
   try have c9b2 : (9223372036854775807 < a3.size) = False := eq_false (Nat.not_lt.2 c9)
   clear c9
   replace H := Option.bind_eq_some_iff.mp H
   obtain ⟨t207, A100, H⟩ := H
   replace H : (if t207.size + a3.size ≤ 9223372036854775807 then (lodestoneref11_Put.l0 k a2 (t203 ++ t204) t205 t206 (t207 ++ a3) a1_0 a1_1 a1_2) else (none)) = some r := H
   have A10 := zM A100
   clear A100
   by_cases c11 : t207.size + a3.size ≤ 9223372036854775807
   ·rw [if_pos c11] at H
    have c11b0 := eq_true c11
    have c11b1 : decide (t207.size + a3.size ≤ 9223372036854775807) = true := decide_eq_true c11
    try have c11b2 : (9223372036854775807 < t207.size + a3.size) = False := eq_false (Nat.not_lt.2 c11)
    have H' := zM H
    clear H
    go_enter Tryd.func10, Tryd.ntmps10
    try go_wp2_with (first | ((with_reducible refine gate_dst (N := 5) rfl ?_); refine box_event ?hg (N := 5) ?hd (cs := #[.int .u32 a1_0, .int .u64 a1_1, .int .u32 a1_2]) (t := 25) ?hr ?_; (case hd => rfl); (case hg => rfl); (case hr => first | (go_simp; done) | (go_simp; rfl)); intro gb202 hg w12 hbox hb; have n0_ := zM (below_step (by repeat (first | (with_reducible first | exact HB.out | apply zL | apply zP | apply zW) | exact HB.out)) hb); have n1_ := zM (hbox); have n2_ := zM ((by rw [hg]; exact (below_size (by repeat (first | (with_reducible first | exact HB.out | apply zL | apply zP | apply zW) | exact HB.out))) : w.heap.size ≤ gb202)); have n3_ := zM ((by rw [hg]; exact (below_size (by repeat (first | (with_reducible first | exact HB.out | apply zL | apply zP | apply zW) | exact HB.out))) : w.heap.size ≤ gb202)); clear HB; have HB := n0_; have BK202 := n1_; have GW202 := n2_; have GE202 := n3_; clear n0_ n1_ n2_ n3_; clear hb hbox hg))
    have n0_ := zM (zD BK202.out)
    have n1_ := zM (zW HB.out)
    clear BK202
    clear HB
    have BK202 := n0_
    have HB := n1_
    clear n0_ n1_
    refine start_ (n := 9) (S := fun w' => w'.cell? ⟨gb202, 0, none⟩ = some (.int .u32 a1_0) ∧ w'.cell? ⟨gb202, 1, none⟩ = some (.int .u64 a1_1) ∧ w'.cell? ⟨gb202, 2, none⟩ = some (.int .u32 a1_2)) (ds := []) zb7_0 (by kernel_rfl) rfl rfl ⟨(zC BK202.out 0).trans rfl, (zC BK202.out 1).trans rfl, (zC BK202.out 2).trans rfl⟩ (fun hHeld => ?_); refine with_tabW lodestoneref11_Put.tab1 lodestoneref11_Put.bits1 (fun HT_ HW_ => ?_)
    generalize w12.drew = w13 at BK202 HB hHeld ⊢
    refine pure_ (i := 0) (N := some 13) (v := ?_) (a' := ?_) zb7_1 rfl rfl (any_of HT_.out (by kernel_rfl)) (fun _ _ _ h => h) (Or.inl ⟨by rfl, ?_⟩) ?_ ?_
    rotate_left
    ·intro w'
     go_simp
     with_reducible rfl
    rotate_left
    ·simp only [Act.put, zT, zZ, zU, i64_w, i32_w]
     rfl
    refine pure_ (i := 3) (N := some 16) (v := ?_) (a' := ?_) zb7_2 rfl rfl (any_of HT_.out (by kernel_rfl)) (fun _ _ _ h => h) (Or.inl ⟨by rfl, ?_⟩) ?_ ?_
    rotate_left
    ·intro w'
     go_simp
     with_reducible rfl
    rotate_left
    ·simp only [Act.put, zT, zZ, zU, i64_w, i32_w]
     rfl
    refine take_ (i := 1) (N := some 14) (v := ?_) (a' := ?_) zb7_3 rfl rfl (take_ofW HT_.out HW_.out (by kernel_rfl)) (fun _ _ _ h => h) (Or.inl ⟨by rfl, ?_⟩) hHeld ?_ ?_
    rotate_left
    ·rintro w' ⟨s0, s1, s2⟩
     go_simp
     with_reducible rfl
    rotate_left
    ·simp only [Act.put, zT, zZ, zU, i64_w, i32_w]
     rfl
    refine take_ (i := 4) (N := some 17) (v := ?_) (a' := ?_) zb7_4 rfl rfl (take_ofW HT_.out HW_.out (by kernel_rfl)) (fun _ _ _ h => h) (Or.inl ⟨by rfl, ?_⟩) hHeld ?_ ?_
    rotate_left
    ·rintro w' ⟨s0, s1, s2⟩
     go_simp
     with_reducible rfl
    rotate_left
    ·simp only [Act.put, zT, zZ, zU, i64_w, i32_w]
     rfl
    refine pure_ (i := 5) (N := some 18) (v := ?_) (a' := ?_) #[true, true, false, true, true, true, false, false, false] rfl rfl (any_of HT_.out (by kernel_rfl)) (fun _ _ _ h => h) (Or.inl ⟨by rfl, ?_⟩) ?_ ?_
    rotate_left
    ·intro w'
     go_simp
     with_reducible rfl
    rotate_left
    ·simp only [Act.put, zT, zZ, zU, i64_w, i32_w]
     rfl
    refine one_ (i := 2) (N := some 15) #[true, true, true, true, true, true, false, false, false] rfl rfl (one_of HT_.out (by kernel_rfl)) (by decide) (fun K hK => ?_)
    refine goes_ Tryd.func24 (by kernel_rfl) rfl #[.int .u64 a1_1, .int .i64 8] (by rfl) rfl rfl (by (try simp only [zY, List.map_cons, List.map_nil]); first | done | rfl | (simp only [zV, zX]; rfl)) ?_
    with_reducible refine (lodestoneref04_High.calls k a1_1 8 t203 _ A5.out).mono ?_
    rintro e w14 ⟨rfl, hb⟩
    refine ⟨_, rfl, ?_⟩
    have n0_ := zM (zB (g := gb202) (o := .cells #[.int .u32 a1_0, .int .u64 a1_1, .int .u32 a1_2] 25 (0, 0)) (by (with_reducible repeat (first | refine zN ?_ _ | refine zD ?_ | refine zA ?_ _)); exact BK202.out) hb)
    have n1_ := zM (below_step (by repeat (first | (with_reducible first | exact HB.out | apply zL | apply zP | apply zW | refine zS ?_ GE202.out) | exact HB.out)) hb)
    clear BK202
    clear HB
    have BK202 := n0_
    have HB := n1_
    clear n0_ n1_
    (try clear hb)
    (try clear hb2)
    (try clear hk)
    (try clear hi)
    refine hK.out _ _ ⟨(zC BK202.out 0).trans rfl, (zC BK202.out 1).trans rfl, (zC BK202.out 2).trans rfl⟩ (fun hHeld => ?_)
    clear hK K
    refine norm_ (a' := ?_) ?_ ?_
    rotate_left
    ·show Act.put _ (some 15) _ = _
     simp only [Act.put, zT, zZ, zU, i64_w, i32_w]
     rfl
    refine one_ (i := 6) (N := some 19) #[true, true, true, true, true, true, true, false, false] rfl rfl (one_of HT_.out (by kernel_rfl)) (by decide) (fun K hK => ?_)
    refine goes_ Tryd.func24 (by kernel_rfl) rfl #[.int .u64 (IntKind.u64.wrap (a1_2)), .int .i64 4] (by rfl) rfl rfl (by (try simp only [zY, List.map_cons, List.map_nil]); first | done | rfl | (simp only [zV, zX]; rfl)) ?_
    with_reducible refine (lodestoneref04_High.calls k (IntKind.u64.wrap (a1_2)) 4 t204 _ A6.out).mono ?_
    rintro e w15 ⟨rfl, hb⟩
    refine ⟨_, rfl, ?_⟩
    have n0_ := zM (zB (g := gb202) (o := .cells #[.int .u32 a1_0, .int .u64 a1_1, .int .u32 a1_2] 25 (0, 0)) (by (with_reducible repeat (first | refine zN ?_ _ | refine zD ?_ | refine zA ?_ _)); exact BK202.out) hb)
    have n1_ := zM (below_step (by repeat (first | (with_reducible first | exact HB.out | apply zL | apply zP | apply zW | refine zS ?_ GE202.out) | exact HB.out)) hb)
    clear BK202
    clear HB
    have BK202 := n0_
    have HB := n1_
    clear n0_ n1_
    (try clear hb)
    (try clear hb2)
    (try clear hk)
    (try clear hi)
    refine hK.out _ _ ⟨(zC BK202.out 0).trans rfl, (zC BK202.out 1).trans rfl, (zC BK202.out 2).trans rfl⟩ (fun hHeld => ?_)
    clear hK K
    refine norm_ (a' := ?_) ?_ ?_
    rotate_left
    ·show Act.put _ (some 19) _ = _
     simp only [Act.put, zT, zZ, zU, i64_w, i32_w]
     rfl
    refine pure_ (i := 7) (N := some 20) (v := ?_) (a' := ?_) #[true, true, true, true, true, true, true, true, false] rfl rfl (any_of HT_.out (by kernel_rfl)) (fun _ _ _ h => h) (Or.inl ⟨by rfl, ?_⟩) ?_ ?_
    rotate_left
    ·intro w'
     go_simp
     with_reducible rfl
    rotate_left
    ·simp only [Act.put, zT, zZ, zU, i64_w, i32_w]
     rfl
    refine pure_ (i := 8) (N := some 9) (v := ?_) (a' := ?_) #[true, true, true, true, true, true, true, true, true] rfl rfl (any_of HT_.out (by kernel_rfl)) (fun _ _ _ h => h) (Or.inl ⟨by rfl, ?_⟩) ?_ ?_
    rotate_left
    ·intro w'
     go_simp
     with_reducible rfl
    rotate_left
    ·simp only [Act.put, zT, zZ, zU, i64_w, i32_w]
     rfl
    refine done_ (done_of HT_.out (by kernel_rfl)) ?_
    have hcz16_0 : w15.cell? ⟨gb202, 0, none⟩ = some (.int .u32 a1_0) := (zC BK202.out 0).trans rfl
    have hcz16_1 : w15.cell? ⟨gb202, 1, none⟩ = some (.int .u64 a1_1) := (zC BK202.out 1).trans rfl
    have hcz16_2 : w15.cell? ⟨gb202, 2, none⟩ = some (.int .u32 a1_2) := (zC BK202.out 2).trans rfl
    have hfz16_0 := zF BK202.out 0
    have hfz16_1 := zF BK202.out 1
    have hfz16_2 := zF BK202.out 2
    try go_wp2_with (first | ((with_reducible refine gate_callee (f := 11) rfl ?_); refine goesL_ (some 25) rfl rfl Tryd.func11 (by kernel_rfl) rfl #[.string a0, .int .u32 a1_0] rfl (by (try simp only [zY, List.map_cons, List.map_nil]); first | done | rfl | (simp only [zV, zX]; rfl)) ?_; (with_reducible refine (lodestoneref09_Keys.calls k a0 a1_0 t205 t206 _ A8.out).mono ?_); rintro e w17 ⟨rfl, hb⟩; refine ⟨_, rfl, ?_⟩; have n0_ := zM (zB (g := gb202) (o := .cells #[.int .u32 a1_0, .int .u64 a1_1, .int .u32 a1_2] 25 (0, 0)) (by (with_reducible repeat (first | refine zN ?_ _ | refine zD ?_ | refine zA ?_ _)); exact BK202.out) hb); have n1_ := zM (below_step (by repeat (first | (with_reducible first | exact HB.out | apply zL | apply zP | apply zW | refine zS ?_ GE202.out) | exact HB.out)) hb); clear BK202; clear HB; have BK202 := n0_; have HB := n1_; clear n0_ n1_; (try clear hb); (try clear hb2); (try clear hk); (try clear hi)) | ((with_reducible refine gate_callee (f := 24) rfl ?_); refine goesL_ (some 31) rfl rfl Tryd.func24 (by kernel_rfl) rfl #[.int .u64 (a3.size : Int), .int .i64 2] rfl (by (try simp only [zY, List.map_cons, List.map_nil]); first | done | rfl | (simp only [zV, zX]; rfl)) ?_; (with_reducible refine (lodestoneref04_High.calls k (a3.size : Int) 2 t207 _ A10.out).mono ?_); rintro e w18 ⟨rfl, hb⟩; refine ⟨_, rfl, ?_⟩; have n0_ := zM (zB (g := gb202) (o := .cells #[.int .u32 a1_0, .int .u64 a1_1, .int .u32 a1_2] 25 (0, 0)) (by (with_reducible repeat (first | refine zN ?_ _ | refine zD ?_ | refine zA ?_ _)); exact BK202.out) hb); have n1_ := zM (below_step (by repeat (first | (with_reducible first | exact HB.out | apply zL | apply zP | apply zW | refine zS ?_ GE202.out) | exact HB.out)) hb); clear BK202; clear HB; have BK202 := n0_; have HB := n1_; clear n0_ n1_; (try clear hb); (try clear hb2); (try clear hk); (try clear hi)))
    go_loopg [12] k (fun kq v12 w' => ∃ (x12_1 : ByteArray), v12 = .string x12_1 ∧ Aside0 (lodestoneref11_Put.l0 kq a2 (t203 ++ t204) t205 t206 x12_1 a1_0 a1_1 a1_2 = some r) ∧ Aside0 (kq ≤ k) ∧ Aside0 (w'.heap[gb202]? = some (.cells #[.int .u32 a1_0, .int .u64 a1_1, .int .u32 a1_2] 25 (0, 0))) ∧ Aside0 (Below w.heap.size w w'))
    case atStart => exact ⟨(t207 ++ a3), (by first | rfl | (simp; done) | (simp [*]; done)), H', ⟨Nat.le_refl _⟩, ⟨by (with_reducible repeat (first | refine zN ?_ _ | refine zD ?_ | refine zA ?_ _)); exact BK202.out⟩, ⟨by repeat (first | (with_reducible first | exact HB.out | apply zL | apply zP | apply zW | refine zS ?_ GE202.out) | exact HB.out)⟩⟩
    case round =>
     clear H'
     try clear c1
     try clear c2
     try clear p2
     try clear c7
     try clear c7b0
     try clear c7b1
     try clear c7b2
     try clear c9
     try clear c9b0
     try clear c9b1
     try clear c9b2
     try clear c10
     try clear c11
     try clear c11b0
     try clear c11b1
     try clear c11b2
     try clear hcz16_0
     try clear hcz16_1
     try clear hcz16_2
     try clear hfz16_0
     try clear hfz16_1
     try clear hfz16_2
     obtain ⟨x12_1, rfl, HA, HK1, BK202, HB⟩ := hrel
     cases gk with
     | zero => exact absurd (show (none : Option ByteArray) = some r from HA.out) (by simp)
     | succ k1 =>
      have H := HA.out
      clear HA
      rw [lodestoneref11_Put.l0_succ] at H
      by_cases c19 : (x12_1.size : Int) < 464
      ·rw [if_pos c19] at H
       have c19b0 : decide ((x12_1.size : Int) < 464) = true := decide_eq_true c19
       have c19b1 : decide (x12_1.size < 464) = true := decide_eq_true (by omega)
       clear c19
       by_cases c20 : x12_1.size + 1 ≤ 9223372036854775807
       ·rw [if_pos c20] at H
        have c20b0 := eq_true c20
        have c20b1 : decide (x12_1.size + 1 ≤ 9223372036854775807) = true := decide_eq_true c20
        try have c20b2 : (9223372036854775807 < x12_1.size + 1) = False := eq_false (Nat.not_lt.2 c20)
        have H' := zM H
        clear H
        go_wp2
        go_roundg k1
        case measure => have := HK1.out; omega
        case rel => exact ⟨(x12_1 ++ (⟨#[0]⟩ : ByteArray)), (by first | rfl | (simp; done) | (simp [*]; done)), H', ⟨by have := HK1.out; omega⟩, ⟨by (with_reducible repeat (first | refine zN ?_ _ | refine zD ?_ | refine zA ?_ _)); exact BK202.out⟩, ⟨by repeat (first | (with_reducible first | exact HB.out | apply zL | apply zP | apply zW | refine zS ?_ GE202.out) | exact HB.out)⟩⟩
       ·rw [if_neg c20] at H
        exact absurd H (by simp)
      ·rw [if_neg c19] at H
       have c19b0 : decide ((x12_1.size : Int) < 464) = false := decide_eq_false c19
       have c19b1 : decide (x12_1.size < 464) = false := decide_eq_false (by omega)
       clear c19
       replace H := Option.bind_eq_some_iff.mp H
       obtain ⟨t208, A210, H⟩ := H
       replace H : (if t208.size + (t203 ++ t204).size ≤ 9223372036854775807 then ((lodestoneref10_Seal.f k1 t205 t206 a2 (t203 ++ t204) x12_1).bind fun t209 => (if (t208 ++ (t203 ++ t204)).size + t209.size ≤ 9223372036854775807 then (some ((t208 ++ (t203 ++ t204)) ++ t209)) else (none))) else (none)) = some r := H
       have A21 := zM A210
       clear A210
       by_cases c22 : t208.size + (t203 ++ t204).size ≤ 9223372036854775807
       ·rw [if_pos c22] at H
        have c22b0 := eq_true c22
        have c22b1 : decide (t208.size + (t203 ++ t204).size ≤ 9223372036854775807) = true := decide_eq_true c22
        try have c22b2 : (9223372036854775807 < t208.size + (t203 ++ t204).size) = False := eq_false (Nat.not_lt.2 c22)
        have c22q := c22
        simp only [ByteArray.size_append] at c22q
        have c22b9 := eq_false (Nat.not_lt.2 c22q)
        clear c22q
        replace H := Option.bind_eq_some_iff.mp H
        obtain ⟨t209, A230, H⟩ := H
        replace H : (if (t208 ++ (t203 ++ t204)).size + t209.size ≤ 9223372036854775807 then (some ((t208 ++ (t203 ++ t204)) ++ t209)) else (none)) = some r := H
        have A23 := zM A230
        clear A230
        by_cases c24 : (t208 ++ (t203 ++ t204)).size + t209.size ≤ 9223372036854775807
        ·rw [if_pos c24] at H
         have c24b0 := eq_true c24
         have c24b1 : decide ((t208 ++ (t203 ++ t204)).size + t209.size ≤ 9223372036854775807) = true := decide_eq_true c24
         try have c24b2 : (9223372036854775807 < (t208 ++ (t203 ++ t204)).size + t209.size) = False := eq_false (Nat.not_lt.2 c24)
         have c24q := c24
         simp only [ByteArray.size_append] at c24q
         have c24b9 := eq_false (Nat.not_lt.2 c24q)
         clear c24q
         obtain rfl := Option.some.inj H
         have hcz25_0 : wr.cell? ⟨gb202, 0, none⟩ = some (.int .u32 a1_0) := (zC BK202.out 0).trans rfl
         have hcz25_1 : wr.cell? ⟨gb202, 1, none⟩ = some (.int .u64 a1_1) := (zC BK202.out 1).trans rfl
         have hcz25_2 : wr.cell? ⟨gb202, 2, none⟩ = some (.int .u32 a1_2) := (zC BK202.out 2).trans rfl
         have hfz25_0 := zF BK202.out 0
         have hfz25_1 := zF BK202.out 1
         have hfz25_2 := zF BK202.out 2
         go_wp2_with (first | ((with_reducible refine gate_callee (f := 24) rfl ?_); refine goesL_ (some 42) rfl rfl Tryd.func24 (by kernel_rfl) rfl #[.int .u64 (IntKind.u64.wrap (a1_0)), .int .i64 4] rfl (by (try simp only [zY, List.map_cons, List.map_nil]); first | done | rfl | (simp only [zV, zX]; rfl)) ?_; (with_reducible refine (lodestoneref04_High.calls k1 (IntKind.u64.wrap (a1_0)) 4 t208 _ A21.out).mono ?_); rintro e w26 ⟨rfl, hb⟩; refine ⟨_, rfl, ?_⟩; have n0_ := zM (zB (g := gb202) (o := .cells #[.int .u32 a1_0, .int .u64 a1_1, .int .u32 a1_2] 25 (0, 0)) (by (with_reducible repeat (first | refine zN ?_ _ | refine zD ?_ | refine zA ?_ _)); exact BK202.out) hb); have n1_ := zM (below_step (by repeat (first | (with_reducible first | exact HB.out | apply zL | apply zP | apply zW | refine zS ?_ GE202.out) | exact HB.out)) hb); clear BK202; clear HB; have BK202 := n0_; have HB := n1_; clear n0_ n1_; (try clear hb); (try clear hb2); (try clear hk); (try clear hi)) | ((with_reducible refine gate_callee (f := 25) rfl ?_); refine goesL_ (some 50) rfl rfl Tryd.func25 (by kernel_rfl) rfl #[.string t205, .string t206, .int .i64 a2, .string (t203 ++ t204), .string x12_1] rfl (by (try simp only [zY, List.map_cons, List.map_nil]); first | done | rfl | (simp only [zV, zX]; rfl)) ?_; (with_reducible refine (lodestoneref10_Seal.calls k1 t205 t206 a2 (t203 ++ t204) x12_1 t209 _ A23.out).mono ?_); rintro e w27 ⟨rfl, hb⟩; refine ⟨_, rfl, ?_⟩; have n0_ := zM (zB (g := gb202) (o := .cells #[.int .u32 a1_0, .int .u64 a1_1, .int .u32 a1_2] 25 (0, 0)) (by (with_reducible repeat (first | refine zN ?_ _ | refine zD ?_ | refine zA ?_ _)); exact BK202.out) hb); have n1_ := zM (below_step (by repeat (first | (with_reducible first | exact HB.out | apply zL | apply zP | apply zW | refine zS ?_ GE202.out) | exact HB.out)) hb); clear BK202; clear HB; have BK202 := n0_; have HB := n1_; clear n0_ n1_; (try clear hb); (try clear hb2); (try clear hk); (try clear hi)))
         go_ret
         exact ⟨by first | rfl | (simp [errW_none, errW_some] <;> rfl) | (simp [*, errW_none, errW_some] <;> rfl), by repeat (first | (with_reducible first | exact HB.out | apply zL | apply zP | apply zW | refine zS ?_ GE202.out) | exact HB.out)⟩
        ·rw [if_neg c24] at H
         exact absurd H (by simp)
       ·rw [if_neg c22] at H
        exact absurd H (by simp)
   ·rw [if_neg c11] at H
    exact absurd H (by simp)
  ·rw [if_neg c9] at H
   exact absurd H (by simp)
 ·rw [if_neg c7] at H
  exact absurd H (by simp)
def lodestonelaw11_BlockPuts.f (k : Nat) (a0_0 : Int) (a0_1 : Int) (a0_2 : Int) (a1 : Int) (a2 : ByteArray) : Option (Bool) := if 0 ≤ (mn (a2.size : Int) 500) then (if (mn (a2.size : Int) 500) ≤ (a2.size : Int) then ((block_Put.f k (⟨#[109, 97, 115, 116, 101, 114]⟩ : ByteArray) a0_0 a0_1 a0_2 a1 (a2.extract 0 ((mn (a2.size : Int) 500) : Int).toNat)).bind fun t211 => (if ((a2.extract 0 ((mn (a2.size : Int) 500) : Int).toNat).size : Int) > 462 then ((lodestonelaw11_awake.f k).bind fun t212 => (if t212 = true then (some (t211.toList == ([] : List UInt8))) else (some false))) else ((block_Get.f k (⟨#[109, 97, 115, 116, 101, 114]⟩ : ByteArray) a1 t211).bind fun bt213 => ((block_Head.f t211).bind fun bt219 => ((lodestonelaw11_awake.f k).bind fun t224 => (if t224 = true then ((lodestoneref11_Put.f k (⟨#[109, 97, 115, 116, 101, 114]⟩ : ByteArray) a0_0 a0_1 a0_2 a1 (a2.extract 0 ((mn (a2.size : Int) 500) : Int).toNat)).bind fun t225 => (if t211.toList = t225.toList then (if bt213.2.2.2.2 = 0 then (if bt213.2.2.2.1.toList = (a2.extract 0 ((mn (a2.size : Int) 500) : Int).toNat).toList then (if (bt213.1 == a0_0 && (bt213.2.1 == a0_1 && (bt213.2.2.1 == a0_2))) = true then (if bt219.2.2.2 = 0 then (some (bt219.1 == a0_0 && (bt219.2.1 == a0_1 && (bt219.2.2.1 == a0_2)))) else (some false)) else (some false)) else (some false)) else (some false)) else (some false))) else (some false))))))) else (none)) else (none)
theorem lodestonelaw11_BlockPuts.mono : ∀ a0 a1 a2 a3 a4 k, LeO (lodestonelaw11_BlockPuts.f k a0 a1 a2 a3 a4) (lodestonelaw11_BlockPuts.f (k + 1) a0 a1 a2 a3 a4) := by
 intro a0 a1 a2 a3 a4 k
 unfold lodestonelaw11_BlockPuts.f
 repeat' first
   | (with_reducible exact block_Get.mono _ _ _ _)
   | (with_reducible exact block_Put.mono _ _ _ _ _ _ _)
   | (with_reducible exact lodestonelaw11_awake.mono _)
   | (with_reducible exact lodestoneref11_Put.mono _ _ _ _ _ _ _)
   | (with_reducible exact LeO.refl _)
   | (with_reducible exact LeO.none _)
   | (with_reducible refine LeO.ite ?_ ?_)
   | (with_reducible refine LeO.bind ?_ (fun _ => ?_))
   | exact block_Get.mono _ _ _ _
   | exact block_Put.mono _ _ _ _ _ _ _
   | exact lodestonelaw11_awake.mono _
   | exact lodestoneref11_Put.mono _ _ _ _ _ _ _
   | exact LeO.none _
   | refine LeO.ite ?_ ?_
   | refine LeO.bind ?_ (fun _ => ?_)
set_option maxHeartbeats 8000000 in
set_option maxRecDepth 100000 in
theorem lodestonelaw11_BlockPuts.calls (k : Nat) (a0_0 : Int) (a0_1 : Int) (a0_2 : Int) (a1 : Int) (a2 : ByteArray) (r : Bool) (w : World) (hG_ : Go.Proofs.YtgbhjkkfleeodaaDoor.Sha.SL w) (h : lodestonelaw11_BlockPuts.f k a0_0 a0_1 a0_2 a1 a2 = some r) (hr : r = true) :
  Calls Tryd.prog 3 #[.agg #[.int .u32 a0_0, .int .u64 a0_1, .int .u32 a0_2], .int .i64 a1, .string a2] w fun e w' => e = .returned (.bool r) ∧ Below w.heap.size w w' := by
 have HR_ := zM hr
 clear hr
 have HG_ := zM hG_
 clear hG_
 have hu25 := Tryd.underlying25
 have HB := zM (Below.refl w.heap.size w)
 have H : (if 0 ≤ (mn (a2.size : Int) 500) then (if (mn (a2.size : Int) 500) ≤ (a2.size : Int) then ((block_Put.f k (⟨#[109, 97, 115, 116, 101, 114]⟩ : ByteArray) a0_0 a0_1 a0_2 a1 (a2.extract 0 ((mn (a2.size : Int) 500) : Int).toNat)).bind fun t211 => (if ((a2.extract 0 ((mn (a2.size : Int) 500) : Int).toNat).size : Int) > 462 then ((lodestonelaw11_awake.f k).bind fun t212 => (if t212 = true then (some (t211.toList == ([] : List UInt8))) else (some false))) else ((block_Get.f k (⟨#[109, 97, 115, 116, 101, 114]⟩ : ByteArray) a1 t211).bind fun bt213 => ((block_Head.f t211).bind fun bt219 => ((lodestonelaw11_awake.f k).bind fun t224 => (if t224 = true then ((lodestoneref11_Put.f k (⟨#[109, 97, 115, 116, 101, 114]⟩ : ByteArray) a0_0 a0_1 a0_2 a1 (a2.extract 0 ((mn (a2.size : Int) 500) : Int).toNat)).bind fun t225 => (if t211.toList = t225.toList then (if bt213.2.2.2.2 = 0 then (if bt213.2.2.2.1.toList = (a2.extract 0 ((mn (a2.size : Int) 500) : Int).toNat).toList then (if (bt213.1 == a0_0 && (bt213.2.1 == a0_1 && (bt213.2.2.1 == a0_2))) = true then (if bt219.2.2.2 = 0 then (some (bt219.1 == a0_0 && (bt219.2.1 == a0_1 && (bt219.2.2.1 == a0_2)))) else (some false)) else (some false)) else (some false)) else (some false)) else (some false))) else (some false))))))) else (none)) else (none)) = some r := h
 clear h
 obtain ⟨ji4, hji4⟩ : ∃ j_ : Int, (mn (a2.size : Int) 500) = j_ := ⟨_, rfl⟩
 replace H : (if 0 ≤ (ji4) then (if (ji4) ≤ (a2.size : Int) then ((block_Put.f k (⟨#[109, 97, 115, 116, 101, 114]⟩ : ByteArray) a0_0 a0_1 a0_2 a1 (a2.extract 0 ((ji4) : Int).toNat)).bind fun t211 => (if ((a2.extract 0 ((ji4) : Int).toNat).size : Int) > 462 then ((lodestonelaw11_awake.f k).bind fun t212 => (if t212 = true then (some (t211.toList == ([] : List UInt8))) else (some false))) else ((block_Get.f k (⟨#[109, 97, 115, 116, 101, 114]⟩ : ByteArray) a1 t211).bind fun bt213 => ((block_Head.f t211).bind fun bt219 => ((lodestonelaw11_awake.f k).bind fun t224 => (if t224 = true then ((lodestoneref11_Put.f k (⟨#[109, 97, 115, 116, 101, 114]⟩ : ByteArray) a0_0 a0_1 a0_2 a1 (a2.extract 0 ((ji4) : Int).toNat)).bind fun t225 => (if t211.toList = t225.toList then (if bt213.2.2.2.2 = 0 then (if bt213.2.2.2.1.toList = (a2.extract 0 ((ji4) : Int).toNat).toList then (if (bt213.1 == a0_0 && (bt213.2.1 == a0_1 && (bt213.2.2.1 == a0_2))) = true then (if bt219.2.2.2 = 0 then (some (bt219.1 == a0_0 && (bt219.2.1 == a0_1 && (bt219.2.2.1 == a0_2)))) else (some false)) else (some false)) else (some false)) else (some false)) else (some false))) else (some false))))))) else (none)) else (none)) = some r := by first | (rw [hji4] at H; exact H) | (simp only [hji4] at H ⊢; exact H)
 (try (have hji4h : ji4 ≤ 500 := by (rw [← hji4]; unfold mn; (repeat' split) <;> omega)))
 (try (have hji4g : ji4 ≤ 64 := by omega))
 (try (have hji4l : 0 ≤ ji4 := by (rw [← hji4]; unfold mn; (repeat' split) <;> omega)))
 (try (have hji4m : 0 ≤ ji4 := by omega))
 have hji4_ : (if 500 < (a2.size : Int) then 500 else (a2.size : Int)) = ji4 := hji4
 by_cases c5 : 0 ≤ (ji4)
 ·rw [if_pos c5] at H
  have c5b0 := eq_true c5
  have c5b1 : decide (0 ≤ (ji4)) = true := decide_eq_true c5
  clear c5
  by_cases c6 : (ji4) ≤ (a2.size : Int)
  ·rw [if_pos c6] at H
   have c6b0 := eq_true c6
   have c6b1 : decide ((ji4) ≤ (a2.size : Int)) = true := decide_eq_true c6
   clear c6
   replace H := Option.bind_eq_some_iff.mp H
   obtain ⟨t211, A70, H⟩ := H
   replace H : (if ((a2.extract 0 ((ji4) : Int).toNat).size : Int) > 462 then ((lodestonelaw11_awake.f k).bind fun t212 => (if t212 = true then (some (t211.toList == ([] : List UInt8))) else (some false))) else ((block_Get.f k (⟨#[109, 97, 115, 116, 101, 114]⟩ : ByteArray) a1 t211).bind fun bt213 => ((block_Head.f t211).bind fun bt219 => ((lodestonelaw11_awake.f k).bind fun t224 => (if t224 = true then ((lodestoneref11_Put.f k (⟨#[109, 97, 115, 116, 101, 114]⟩ : ByteArray) a0_0 a0_1 a0_2 a1 (a2.extract 0 ((ji4) : Int).toNat)).bind fun t225 => (if t211.toList = t225.toList then (if bt213.2.2.2.2 = 0 then (if bt213.2.2.2.1.toList = (a2.extract 0 ((ji4) : Int).toNat).toList then (if (bt213.1 == a0_0 && (bt213.2.1 == a0_1 && (bt213.2.2.1 == a0_2))) = true then (if bt219.2.2.2 = 0 then (some (bt219.1 == a0_0 && (bt219.2.1 == a0_1 && (bt219.2.2.1 == a0_2)))) else (some false)) else (some false)) else (some false)) else (some false)) else (some false))) else (some false)))))) = some r := H
   have A7 := zM A70
   clear A70
   by_cases c8 : ((a2.extract 0 ((ji4) : Int).toNat).size : Int) > 462
   ·rw [if_pos c8] at H
    have c8b0 : decide (462 < ((a2.extract 0 ((ji4) : Int).toNat).size : Int)) = true := decide_eq_true c8
    have c8b1 : decide (462 < (a2.extract 0 ((ji4) : Int).toNat).size) = true := decide_eq_true (by omega)
    have c8b2 : decide (462 < max ji4 0) = true := decide_eq_true (by have h_ := c8; rw [ByteArray.size_extract] at h_; omega)
    clear c8
    replace H := Option.bind_eq_some_iff.mp H
    obtain ⟨t212, A90, H⟩ := H
    replace H : (if t212 = true then (some (t211.toList == ([] : List UInt8))) else (some false)) = some r := H
    have A9 := zM A90
    clear A90
    by_cases c10 : t212 = true
    ·subst c10
     have H1 : (some (t211.toList == ([] : List UInt8))) = some r := by rw [if_pos rfl] at H; exact H
     clear H
     have H := H1
     clear H1
     obtain rfl := Option.some.inj H
     go_enter Tryd.func3, Tryd.ntmps3
     go_wp2_with (first | ((with_reducible refine gate_dst (N := 3) rfl ?_); refine box_event ?hg (N := 3) ?hd (cs := #[.int .u32 a0_0, .int .u64 a0_1, .int .u32 a0_2]) (t := 25) ?hr ?_; (case hd => rfl); (case hg => rfl); (case hr => first | (go_simp; done) | (go_simp; rfl)); intro gb210 hg w11 hbox hb; have n0_ := zM (below_step (by repeat (first | (with_reducible first | exact HB.out | apply zL | apply zP | apply zW) | exact HB.out)) hb); have n1_ := zM (hbox); have n2_ := zM ((by rw [hg]; exact (below_size (by repeat (first | (with_reducible first | exact HB.out | apply zL | apply zP | apply zW) | exact HB.out))) : w.heap.size ≤ gb210)); have n3_ := zM ((by rw [hg]; exact (below_size (by repeat (first | (with_reducible first | exact HB.out | apply zL | apply zP | apply zW) | exact HB.out))) : w.heap.size ≤ gb210)); clear HB; have HB := n0_; have BK210 := n1_; have GW210 := n2_; have GE210 := n3_; clear n0_ n1_ n2_ n3_; clear hb hbox hg; have hcz12_0 : w11.cell? ⟨gb210, 0, none⟩ = some (.int .u32 a0_0) := (zC BK210.out 0).trans rfl; have hcz12_1 : w11.cell? ⟨gb210, 1, none⟩ = some (.int .u64 a0_1) := (zC BK210.out 1).trans rfl; have hcz12_2 : w11.cell? ⟨gb210, 2, none⟩ = some (.int .u32 a0_2) := (zC BK210.out 2).trans rfl; have hfz12_0 := zF BK210.out 0; have hfz12_1 := zF BK210.out 1; have hfz12_2 := zF BK210.out 2) | ((with_reducible refine gate_callee (f := 6) rfl ?_); refine goesL_ (some 22) rfl rfl Tryd.func6 (by kernel_rfl) rfl #[.string (⟨#[109, 97, 115, 116, 101, 114]⟩ : ByteArray), .agg #[.int .u32 a0_0, .int .u64 a0_1, .int .u32 a0_2], .int .i64 a1, .string (a2.extract 0 ((ji4) : Int).toNat)] rfl (by (try simp only [zY, List.map_cons, List.map_nil]); first | done | (simp only [hji4]; rfl) | rfl | (simp only [zV, zX]; rfl)) ?_; (with_reducible refine (block_Put.calls k (⟨#[109, 97, 115, 116, 101, 114]⟩ : ByteArray) a0_0 a0_1 a0_2 a1 (a2.extract 0 ((ji4) : Int).toNat) t211 _ ?side1 A7.out).mono ?_); (case side1 => exact Go.Proofs.YtgbhjkkfleeodaaDoor.Sha.SL.below HG_.out (by repeat (first | (with_reducible first | exact HB.out | apply zL | apply zP | apply zW | refine zS ?_ GE210.out) | exact HB.out))); rintro e w13 ⟨rfl, hb⟩; refine ⟨_, rfl, ?_⟩; have n0_ := zM (zB (g := gb210) (o := .cells #[.int .u32 a0_0, .int .u64 a0_1, .int .u32 a0_2] 25 (0, 0)) (by (with_reducible repeat (first | refine zN ?_ _ | refine zD ?_ | refine zA ?_ _)); exact BK210.out) hb); have n1_ := zM (below_step (by repeat (first | (with_reducible first | exact HB.out | apply zL | apply zP | apply zW | refine zS ?_ GE210.out) | exact HB.out)) hb); clear BK210; clear HB; have BK210 := n0_; have HB := n1_; clear n0_ n1_; (try clear hb); (try clear hb2); (try clear hk); (try clear hi)) | ((with_reducible refine gate_callee (f := 7) rfl ?_); refine goesL_ (some 26) rfl rfl Tryd.func7 (by kernel_rfl) rfl #[] rfl (by (try simp only [zY, List.map_cons, List.map_nil]); first | done | rfl | (simp only [zV, zX]; rfl)) ?_; (with_reducible refine (lodestonelaw11_awake.calls k  true _ ?side1 A9.out).mono ?_); (case side1 => exact Go.Proofs.YtgbhjkkfleeodaaDoor.Sha.SL.below HG_.out (by repeat (first | (with_reducible first | exact HB.out | apply zL | apply zP | apply zW | refine zS ?_ GE210.out) | exact HB.out))); rintro e w14 ⟨rfl, hb⟩; refine ⟨_, rfl, ?_⟩; have n0_ := zM (zB (g := gb210) (o := .cells #[.int .u32 a0_0, .int .u64 a0_1, .int .u32 a0_2] 25 (0, 0)) (by (with_reducible repeat (first | refine zN ?_ _ | refine zD ?_ | refine zA ?_ _)); exact BK210.out) hb); have n1_ := zM (below_step (by repeat (first | (with_reducible first | exact HB.out | apply zL | apply zP | apply zW | refine zS ?_ GE210.out) | exact HB.out)) hb); clear BK210; clear HB; have BK210 := n0_; have HB := n1_; clear n0_ n1_; (try clear hb); (try clear hb2); (try clear hk); (try clear hi)))
     go_ret
     exact ⟨by first | rfl | (simp [errW_none, errW_some] <;> rfl) | (simp only [← hji4]; first | rfl | (simp [errW_none, errW_some] <;> rfl)) | (simp [*, errW_none, errW_some] <;> rfl), by repeat (first | (with_reducible first | exact HB.out | apply zL | apply zP | apply zW | refine zS ?_ GE210.out) | exact HB.out)⟩
    ·replace c10 := Bool.eq_false_iff.mpr c10
     subst c10
     have H1 : (some false) = some r := by rw [if_neg (show ¬ (false = true) by decide)] at H; exact H
     clear H
     have H := H1
     clear H1
     exact absurd (H.trans (congrArg some HR_.out)) (by simp)
   ·rw [if_neg c8] at H
    have c8b0 : decide (462 < ((a2.extract 0 ((ji4) : Int).toNat).size : Int)) = false := decide_eq_false c8
    have c8b1 : decide (462 < (a2.extract 0 ((ji4) : Int).toNat).size) = false := decide_eq_false (by omega)
    have c8b2 : decide (462 < max ji4 0) = false := decide_eq_false (by have h_ := c8; rw [ByteArray.size_extract] at h_; omega)
    clear c8
    replace H := Option.bind_eq_some_iff.mp H
    obtain ⟨⟨t213, t214, t215, t216, t217⟩, A190, H⟩ := H
    replace H : ((block_Head.f t211).bind fun bt219 => ((lodestonelaw11_awake.f k).bind fun t224 => (if t224 = true then ((lodestoneref11_Put.f k (⟨#[109, 97, 115, 116, 101, 114]⟩ : ByteArray) a0_0 a0_1 a0_2 a1 (a2.extract 0 ((ji4) : Int).toNat)).bind fun t225 => (if t211.toList = t225.toList then (if t217 = 0 then (if t216.toList = (a2.extract 0 ((ji4) : Int).toNat).toList then (if (t213 == a0_0 && (t214 == a0_1 && (t215 == a0_2))) = true then (if bt219.2.2.2 = 0 then (some (bt219.1 == a0_0 && (bt219.2.1 == a0_1 && (bt219.2.2.1 == a0_2)))) else (some false)) else (some false)) else (some false)) else (some false)) else (some false))) else (some false)))) = some r := H
    have A19 := zM A190
    clear A190
    replace H := Option.bind_eq_some_iff.mp H
    obtain ⟨⟨t219, t220, t221, t222⟩, A200, H⟩ := H
    replace H : ((lodestonelaw11_awake.f k).bind fun t224 => (if t224 = true then ((lodestoneref11_Put.f k (⟨#[109, 97, 115, 116, 101, 114]⟩ : ByteArray) a0_0 a0_1 a0_2 a1 (a2.extract 0 ((ji4) : Int).toNat)).bind fun t225 => (if t211.toList = t225.toList then (if t217 = 0 then (if t216.toList = (a2.extract 0 ((ji4) : Int).toNat).toList then (if (t213 == a0_0 && (t214 == a0_1 && (t215 == a0_2))) = true then (if t222 = 0 then (some (t219 == a0_0 && (t220 == a0_1 && (t221 == a0_2)))) else (some false)) else (some false)) else (some false)) else (some false)) else (some false))) else (some false))) = some r := H
    have A20 := zM A200
    clear A200
    replace H := Option.bind_eq_some_iff.mp H
    obtain ⟨t224, A210, H⟩ := H
    replace H : (if t224 = true then ((lodestoneref11_Put.f k (⟨#[109, 97, 115, 116, 101, 114]⟩ : ByteArray) a0_0 a0_1 a0_2 a1 (a2.extract 0 ((ji4) : Int).toNat)).bind fun t225 => (if t211.toList = t225.toList then (if t217 = 0 then (if t216.toList = (a2.extract 0 ((ji4) : Int).toNat).toList then (if (t213 == a0_0 && (t214 == a0_1 && (t215 == a0_2))) = true then (if t222 = 0 then (some (t219 == a0_0 && (t220 == a0_1 && (t221 == a0_2)))) else (some false)) else (some false)) else (some false)) else (some false)) else (some false))) else (some false)) = some r := H
    have A21 := zM A210
    clear A210
    by_cases c22 : t224 = true
    ·subst c22
     have H1 : ((lodestoneref11_Put.f k (⟨#[109, 97, 115, 116, 101, 114]⟩ : ByteArray) a0_0 a0_1 a0_2 a1 (a2.extract 0 ((ji4) : Int).toNat)).bind fun t225 => (if t211.toList = t225.toList then (if t217 = 0 then (if t216.toList = (a2.extract 0 ((ji4) : Int).toNat).toList then (if (t213 == a0_0 && (t214 == a0_1 && (t215 == a0_2))) = true then (if t222 = 0 then (some (t219 == a0_0 && (t220 == a0_1 && (t221 == a0_2)))) else (some false)) else (some false)) else (some false)) else (some false)) else (some false))) = some r := by rw [if_pos rfl] at H; exact H
     clear H
     have H := H1
     clear H1
     replace H := Option.bind_eq_some_iff.mp H
     obtain ⟨t225, A230, H⟩ := H
     replace H : (if t211.toList = t225.toList then (if t217 = 0 then (if t216.toList = (a2.extract 0 ((ji4) : Int).toNat).toList then (if (t213 == a0_0 && (t214 == a0_1 && (t215 == a0_2))) = true then (if t222 = 0 then (some (t219 == a0_0 && (t220 == a0_1 && (t221 == a0_2)))) else (some false)) else (some false)) else (some false)) else (some false)) else (some false)) = some r := H
     have A23 := zM A230
     clear A230
     by_cases c24 : t211.toList = t225.toList
     ·rw [if_pos c24] at H
      have c24b0 : (t211.toList == t225.toList) = true := beq_iff_eq.mpr c24
      have c24b1 : (t211.toList != t225.toList) = false := bne_eq_false_iff_eq.mpr c24
      clear c24
      by_cases c25 : t217 = 0
      ·rw [if_pos c25] at H
       have c25b0 : (t217 == 0) = true := beq_iff_eq.mpr c25
       have c25b1 : (t217 != 0) = false := bne_eq_false_iff_eq.mpr c25
       clear c25
       by_cases c26 : t216.toList = (a2.extract 0 ((ji4) : Int).toNat).toList
       ·rw [if_pos c26] at H
        have c26b0 : (t216.toList == (a2.extract 0 ((ji4) : Int).toNat).toList) = true := beq_iff_eq.mpr c26
        have c26b1 : (t216.toList != (a2.extract 0 ((ji4) : Int).toNat).toList) = false := bne_eq_false_iff_eq.mpr c26
        clear c26
        by_cases c27 : (t213 == a0_0 && (t214 == a0_1 && (t215 == a0_2))) = true
        ·rw [if_pos c27] at H
         have c27s := c27
         simp only [Bool.and_eq_true, beq_iff_eq] at c27s
         obtain ⟨c27s0, c27s1, c27s2⟩ := c27s
         replace c27s0 := c27s0.symm
         replace c27s1 := c27s1.symm
         replace c27s2 := c27s2.symm
         subst c27s0 c27s1 c27s2
         have c27b0 : (a0_0 == a0_0 && (a0_1 == a0_1 && (a0_2 == a0_2))) = true := c27
         (try (have c27b1 : decide (a0_0 = a0_0 && (a0_1 == a0_1 && (a0_2 == a0_2))) = true := by simpa using c27))
         (try (have c27b2 : (a0_0 == a0_0 && (a0_1 == a0_1 && (a0_2 == a0_2))) = true := by simpa using c27))
         clear c27
         by_cases c28 : t222 = 0
         ·rw [if_pos c28] at H
          have c28b0 : (t222 == 0) = true := beq_iff_eq.mpr c28
          have c28b1 : (t222 != 0) = false := bne_eq_false_iff_eq.mpr c28
          clear c28
          obtain rfl := Option.some.inj H
          have hz_ := HR_.out
          simp only [Bool.and_eq_true, beq_iff_eq] at hz_
          obtain ⟨z0, z1, z2⟩ := hz_
          replace z0 := z0.symm
          replace z1 := z1.symm
          replace z2 := z2.symm
          subst z0 z1 z2
          go_enter Tryd.func3, Tryd.ntmps3
          go_wp2_with (first | ((with_reducible refine gate_dst (N := 3) rfl ?_); refine box_event ?hg (N := 3) ?hd (cs := #[.int .u32 a0_0, .int .u64 a0_1, .int .u32 a0_2]) (t := 25) ?hr ?_; (case hd => rfl); (case hg => rfl); (case hr => first | (go_simp; done) | (go_simp; rfl)); intro gb210 hg w29 hbox hb; have n0_ := zM (below_step (by repeat (first | (with_reducible first | exact HB.out | apply zL | apply zP | apply zW) | exact HB.out)) hb); have n1_ := zM (hbox); have n2_ := zM ((by rw [hg]; exact (below_size (by repeat (first | (with_reducible first | exact HB.out | apply zL | apply zP | apply zW) | exact HB.out))) : w.heap.size ≤ gb210)); have n3_ := zM ((by rw [hg]; exact (below_size (by repeat (first | (with_reducible first | exact HB.out | apply zL | apply zP | apply zW) | exact HB.out))) : w.heap.size ≤ gb210)); clear HB; have HB := n0_; have BK210 := n1_; have GW210 := n2_; have GE210 := n3_; clear n0_ n1_ n2_ n3_; clear hb hbox hg; have hcz30_0 : w29.cell? ⟨gb210, 0, none⟩ = some (.int .u32 a0_0) := (zC BK210.out 0).trans rfl; have hcz30_1 : w29.cell? ⟨gb210, 1, none⟩ = some (.int .u64 a0_1) := (zC BK210.out 1).trans rfl; have hcz30_2 : w29.cell? ⟨gb210, 2, none⟩ = some (.int .u32 a0_2) := (zC BK210.out 2).trans rfl; have hfz30_0 := zF BK210.out 0; have hfz30_1 := zF BK210.out 1; have hfz30_2 := zF BK210.out 2) | ((with_reducible refine gate_callee (f := 6) rfl ?_); refine goesL_ (some 22) rfl rfl Tryd.func6 (by kernel_rfl) rfl #[.string (⟨#[109, 97, 115, 116, 101, 114]⟩ : ByteArray), .agg #[.int .u32 a0_0, .int .u64 a0_1, .int .u32 a0_2], .int .i64 a1, .string (a2.extract 0 ((ji4) : Int).toNat)] rfl (by (try simp only [zY, List.map_cons, List.map_nil]); first | done | (simp only [hji4]; rfl) | rfl | (simp only [zV, zX]; rfl)) ?_; (with_reducible refine (block_Put.calls k (⟨#[109, 97, 115, 116, 101, 114]⟩ : ByteArray) a0_0 a0_1 a0_2 a1 (a2.extract 0 ((ji4) : Int).toNat) t211 _ ?side1 A7.out).mono ?_); (case side1 => exact Go.Proofs.YtgbhjkkfleeodaaDoor.Sha.SL.below HG_.out (by repeat (first | (with_reducible first | exact HB.out | apply zL | apply zP | apply zW | refine zS ?_ GE210.out) | exact HB.out))); rintro e w31 ⟨rfl, hb⟩; refine ⟨_, rfl, ?_⟩; have n0_ := zM (zB (g := gb210) (o := .cells #[.int .u32 a0_0, .int .u64 a0_1, .int .u32 a0_2] 25 (0, 0)) (by (with_reducible repeat (first | refine zN ?_ _ | refine zD ?_ | refine zA ?_ _)); exact BK210.out) hb); have n1_ := zM (below_step (by repeat (first | (with_reducible first | exact HB.out | apply zL | apply zP | apply zW | refine zS ?_ GE210.out) | exact HB.out)) hb); clear BK210; clear HB; have BK210 := n0_; have HB := n1_; clear n0_ n1_; (try clear hb); (try clear hb2); (try clear hk); (try clear hi)) | ((with_reducible refine gate_callee (f := 8) rfl ?_); refine goesL_ (some 34) rfl rfl Tryd.func8 (by kernel_rfl) rfl #[.string (⟨#[109, 97, 115, 116, 101, 114]⟩ : ByteArray), .int .i64 a1, .string t211] rfl (by (try simp only [zY, List.map_cons, List.map_nil]); first | done | rfl | (simp only [zV, zX]; rfl)) ?_; (with_reducible refine (block_Get.calls k (⟨#[109, 97, 115, 116, 101, 114]⟩ : ByteArray) a1 t211 a0_0 a0_1 a0_2 t216 t217 _ ?side1 A19.out).mono ?_); (case side1 => exact Go.Proofs.YtgbhjkkfleeodaaDoor.Sha.SL.below HG_.out (by repeat (first | (with_reducible first | exact HB.out | apply zL | apply zP | apply zW | refine zS ?_ GE210.out) | exact HB.out))); rintro e w32 ⟨rfl, hb⟩; refine ⟨_, rfl, ?_⟩; have n0_ := zM (zB (g := gb210) (o := .cells #[.int .u32 a0_0, .int .u64 a0_1, .int .u32 a0_2] 25 (0, 0)) (by (with_reducible repeat (first | refine zN ?_ _ | refine zD ?_ | refine zA ?_ _)); exact BK210.out) hb); have n1_ := zM (below_step (by repeat (first | (with_reducible first | exact HB.out | apply zL | apply zP | apply zW | refine zS ?_ GE210.out) | exact HB.out)) hb); clear BK210; clear HB; have BK210 := n0_; have HB := n1_; clear n0_ n1_; (try clear hb); (try clear hb2); (try clear hk); (try clear hi)) | ((with_reducible refine gate_dst (N := 9) rfl ?_); refine box_event ?hg (N := 9) ?hd (cs := #[.int .u32 0, .int .u64 0, .int .u32 0]) (t := 25) ?hr ?_; (case hd => rfl); (case hg => rfl); (case hr => first | (go_simp; done) | (go_simp; rfl)); intro gb218 hg w33 hbox hb; have n0_ := zM (zB (g := gb210) (o := .cells #[.int .u32 a0_0, .int .u64 a0_1, .int .u32 a0_2] 25 (0, 0)) (by (with_reducible repeat (first | refine zN ?_ _ | refine zD ?_ | refine zA ?_ _)); exact BK210.out) hb); have n1_ := zM (below_step (by repeat (first | (with_reducible first | exact HB.out | apply zL | apply zP | apply zW | refine zS ?_ GE210.out) | exact HB.out)) hb); have n2_ := zM (hbox); have n3_ := zM ((by rw [hg]; exact (below_size (by repeat (first | (with_reducible first | exact HB.out | apply zL | apply zP | apply zW | refine zS ?_ GE210.out) | exact HB.out))) : w.heap.size ≤ gb218)); have n4_ := zM ((by rw [hg]; exact (below_size (by repeat (first | (with_reducible first | exact HB.out | apply zL | apply zP | apply zW | refine zS ?_ GE210.out) | exact HB.out))) : w.heap.size ≤ gb218)); have n5_ := zM ((by rw [hg]; exact Nat.ne_of_lt (blk_lt (g := gb210) (o := .cells #[.int .u32 a0_0, .int .u64 a0_1, .int .u32 a0_2] 25 (0, 0)) (by (with_reducible repeat (first | refine zN ?_ _ | refine zD ?_ | refine zA ?_ _)); exact BK210.out)) : gb210 ≠ gb218)); have n6_ := zM ((by rw [hg]; exact Nat.ne_of_gt (blk_lt (g := gb210) (o := .cells #[.int .u32 a0_0, .int .u64 a0_1, .int .u32 a0_2] 25 (0, 0)) (by (with_reducible repeat (first | refine zN ?_ _ | refine zD ?_ | refine zA ?_ _)); exact BK210.out)) : gb218 ≠ gb210)); clear BK210; clear HB; have BK210 := n0_; have HB := n1_; have BK218 := n2_; have GW218 := n3_; have GE218 := n4_; have NB210_218 := n5_; have NB218_210 := n6_; clear n0_ n1_ n2_ n3_ n4_ n5_ n6_; clear hb hbox hg; have hnb34 := NB218_210.out; have hnc34 := NB210_218.out; have hcz35_0 : w33.cell? ⟨gb218, 0, none⟩ = some (.int .u32 0) := (zC BK218.out 0).trans rfl; have hcz35_1 : w33.cell? ⟨gb218, 1, none⟩ = some (.int .u64 0) := (zC BK218.out 1).trans rfl; have hcz35_2 : w33.cell? ⟨gb218, 2, none⟩ = some (.int .u32 0) := (zC BK218.out 2).trans rfl; have hfz35_0 := zF BK218.out 0; have hfz35_1 := zF BK218.out 1; have hfz35_2 := zF BK218.out 2) | ((with_reducible refine gate_callee (f := 9) rfl ?_); refine goesL_ (some 40) rfl rfl Tryd.func9 (by kernel_rfl) rfl #[.string t211] rfl (by (try simp only [zY, List.map_cons, List.map_nil]); first | done | rfl | (simp only [zV, zX]; rfl)) ?_; (with_reducible refine (block_Head.calls t211 a0_0 a0_1 a0_2 t222 _ A20.out).mono ?_); rintro e w36 ⟨rfl, hb⟩; refine ⟨_, rfl, ?_⟩; have n0_ := zM (zB (g := gb210) (o := .cells #[.int .u32 a0_0, .int .u64 a0_1, .int .u32 a0_2] 25 (0, 0)) (by (with_reducible repeat (first | refine zN ?_ _ | refine zD ?_ | refine zA ?_ _)); refine blk_far ?_ NB210_218.out _; (with_reducible repeat (first | refine zN ?_ _ | refine zD ?_ | refine zA ?_ _)); refine blk_far ?_ NB210_218.out _; (with_reducible repeat (first | refine zN ?_ _ | refine zD ?_ | refine zA ?_ _)); refine blk_far ?_ NB210_218.out _; (with_reducible repeat (first | refine zN ?_ _ | refine zD ?_ | refine zA ?_ _)); exact BK210.out) hb); have n1_ := zM (zB (g := gb218) (o := .cells #[.int .u32 a0_0, .int .u64 a0_1, .int .u32 a0_2] 25 (0, 0)) (by (with_reducible repeat (first | refine zN ?_ _ | refine zD ?_ | refine zA ?_ _)); refine blk_put (cs := #[.int .u32 a0_0, .int .u64 a0_1, .int .u32 0]) ?_ 2 _ rfl; (with_reducible repeat (first | refine zN ?_ _ | refine zD ?_ | refine zA ?_ _)); refine blk_put (cs := #[.int .u32 a0_0, .int .u64 0, .int .u32 0]) ?_ 1 _ rfl; (with_reducible repeat (first | refine zN ?_ _ | refine zD ?_ | refine zA ?_ _)); refine blk_put (cs := #[.int .u32 0, .int .u64 0, .int .u32 0]) ?_ 0 _ rfl; (with_reducible repeat (first | refine zN ?_ _ | refine zD ?_ | refine zA ?_ _)); exact BK218.out) hb); have n2_ := zM (below_step (by repeat (first | (with_reducible first | exact HB.out | apply zL | apply zP | apply zW | refine zS ?_ GE210.out | refine zS ?_ GE218.out) | exact HB.out)) hb); clear BK210; clear BK218; clear HB; have BK210 := n0_; have BK218 := n1_; have HB := n2_; clear n0_ n1_ n2_; (try clear hb); (try clear hb2); (try clear hk); (try clear hi)) | ((with_reducible refine gate_dst (N := 12) rfl ?_); refine box_event ?hg (N := 12) ?hd (cs := #[.int .u32 0, .int .u64 0, .int .u32 0]) (t := 25) ?hr ?_; (case hd => rfl); (case hg => rfl); (case hr => first | (go_simp; done) | (go_simp; rfl)); intro gb223 hg w37 hbox hb; have n0_ := zM (zB (g := gb210) (o := .cells #[.int .u32 a0_0, .int .u64 a0_1, .int .u32 a0_2] 25 (0, 0)) (by (with_reducible repeat (first | refine zN ?_ _ | refine zD ?_ | refine zA ?_ _)); exact BK210.out) hb); have n1_ := zM (zB (g := gb218) (o := .cells #[.int .u32 a0_0, .int .u64 a0_1, .int .u32 a0_2] 25 (0, 0)) (by (with_reducible repeat (first | refine zN ?_ _ | refine zD ?_ | refine zA ?_ _)); exact BK218.out) hb); have n2_ := zM (below_step (by repeat (first | (with_reducible first | exact HB.out | apply zL | apply zP | apply zW | refine zS ?_ GE210.out | refine zS ?_ GE218.out) | exact HB.out)) hb); have n3_ := zM (hbox); have n4_ := zM ((by rw [hg]; exact (below_size (by repeat (first | (with_reducible first | exact HB.out | apply zL | apply zP | apply zW | refine zS ?_ GE210.out | refine zS ?_ GE218.out) | exact HB.out))) : w.heap.size ≤ gb223)); have n5_ := zM ((by rw [hg]; exact (below_size (by repeat (first | (with_reducible first | exact HB.out | apply zL | apply zP | apply zW | refine zS ?_ GE210.out | refine zS ?_ GE218.out) | exact HB.out))) : w.heap.size ≤ gb223)); have n6_ := zM ((by rw [hg]; exact Nat.ne_of_lt (blk_lt (g := gb210) (o := .cells #[.int .u32 a0_0, .int .u64 a0_1, .int .u32 a0_2] 25 (0, 0)) (by (with_reducible repeat (first | refine zN ?_ _ | refine zD ?_ | refine zA ?_ _)); exact BK210.out)) : gb210 ≠ gb223)); have n7_ := zM ((by rw [hg]; exact Nat.ne_of_gt (blk_lt (g := gb210) (o := .cells #[.int .u32 a0_0, .int .u64 a0_1, .int .u32 a0_2] 25 (0, 0)) (by (with_reducible repeat (first | refine zN ?_ _ | refine zD ?_ | refine zA ?_ _)); exact BK210.out)) : gb223 ≠ gb210)); have n8_ := zM ((by rw [hg]; exact Nat.ne_of_lt (blk_lt (g := gb218) (o := .cells #[.int .u32 a0_0, .int .u64 a0_1, .int .u32 a0_2] 25 (0, 0)) (by (with_reducible repeat (first | refine zN ?_ _ | refine zD ?_ | refine zA ?_ _)); exact BK218.out)) : gb218 ≠ gb223)); have n9_ := zM ((by rw [hg]; exact Nat.ne_of_gt (blk_lt (g := gb218) (o := .cells #[.int .u32 a0_0, .int .u64 a0_1, .int .u32 a0_2] 25 (0, 0)) (by (with_reducible repeat (first | refine zN ?_ _ | refine zD ?_ | refine zA ?_ _)); exact BK218.out)) : gb223 ≠ gb218)); clear BK210; clear BK218; clear HB; have BK210 := n0_; have BK218 := n1_; have HB := n2_; have BK223 := n3_; have GW223 := n4_; have GE223 := n5_; have NB210_223 := n6_; have NB223_210 := n7_; have NB218_223 := n8_; have NB223_218 := n9_; clear n0_ n1_ n2_ n3_ n4_ n5_ n6_ n7_ n8_ n9_; clear hb hbox hg; have hnb38 := NB223_210.out; have hnc38 := NB210_223.out; have hnb39 := NB223_218.out; have hnc39 := NB218_223.out; have hcz40_0 : w37.cell? ⟨gb223, 0, none⟩ = some (.int .u32 0) := (zC BK223.out 0).trans rfl; have hcz40_1 : w37.cell? ⟨gb223, 1, none⟩ = some (.int .u64 0) := (zC BK223.out 1).trans rfl; have hcz40_2 : w37.cell? ⟨gb223, 2, none⟩ = some (.int .u32 0) := (zC BK223.out 2).trans rfl; have hfz40_0 := zF BK223.out 0; have hfz40_1 := zF BK223.out 1; have hfz40_2 := zF BK223.out 2) | ((with_reducible refine gate_callee (f := 7) rfl ?_); refine goesL_ (some 43) rfl rfl Tryd.func7 (by kernel_rfl) rfl #[] rfl (by (try simp only [zY, List.map_cons, List.map_nil]); first | done | rfl | (simp only [zV, zX]; rfl)) ?_; (with_reducible refine (lodestonelaw11_awake.calls k  true _ ?side1 A21.out).mono ?_); (case side1 => exact Go.Proofs.YtgbhjkkfleeodaaDoor.Sha.SL.below HG_.out (by repeat (first | (with_reducible first | exact HB.out | apply zL | apply zP | apply zW | refine zS ?_ GE210.out | refine zS ?_ GE218.out | refine zS ?_ GE223.out) | exact HB.out))); rintro e w41 ⟨rfl, hb⟩; refine ⟨_, rfl, ?_⟩; have n0_ := zM (zB (g := gb210) (o := .cells #[.int .u32 a0_0, .int .u64 a0_1, .int .u32 a0_2] 25 (0, 0)) (by (with_reducible repeat (first | refine zN ?_ _ | refine zD ?_ | refine zA ?_ _)); refine blk_far ?_ NB210_223.out _; (with_reducible repeat (first | refine zN ?_ _ | refine zD ?_ | refine zA ?_ _)); refine blk_far ?_ NB210_223.out _; (with_reducible repeat (first | refine zN ?_ _ | refine zD ?_ | refine zA ?_ _)); refine blk_far ?_ NB210_223.out _; (with_reducible repeat (first | refine zN ?_ _ | refine zD ?_ | refine zA ?_ _)); exact BK210.out) hb); have n1_ := zM (zB (g := gb218) (o := .cells #[.int .u32 a0_0, .int .u64 a0_1, .int .u32 a0_2] 25 (0, 0)) (by (with_reducible repeat (first | refine zN ?_ _ | refine zD ?_ | refine zA ?_ _)); refine blk_far ?_ NB218_223.out _; (with_reducible repeat (first | refine zN ?_ _ | refine zD ?_ | refine zA ?_ _)); refine blk_far ?_ NB218_223.out _; (with_reducible repeat (first | refine zN ?_ _ | refine zD ?_ | refine zA ?_ _)); refine blk_far ?_ NB218_223.out _; (with_reducible repeat (first | refine zN ?_ _ | refine zD ?_ | refine zA ?_ _)); exact BK218.out) hb); have n2_ := zM (zB (g := gb223) (o := .cells #[.int .u32 a0_0, .int .u64 a0_1, .int .u32 a0_2] 25 (0, 0)) (by (with_reducible repeat (first | refine zN ?_ _ | refine zD ?_ | refine zA ?_ _)); refine blk_put (cs := #[.int .u32 a0_0, .int .u64 a0_1, .int .u32 0]) ?_ 2 _ rfl; (with_reducible repeat (first | refine zN ?_ _ | refine zD ?_ | refine zA ?_ _)); refine blk_put (cs := #[.int .u32 a0_0, .int .u64 0, .int .u32 0]) ?_ 1 _ rfl; (with_reducible repeat (first | refine zN ?_ _ | refine zD ?_ | refine zA ?_ _)); refine blk_put (cs := #[.int .u32 0, .int .u64 0, .int .u32 0]) ?_ 0 _ rfl; (with_reducible repeat (first | refine zN ?_ _ | refine zD ?_ | refine zA ?_ _)); exact BK223.out) hb); have n3_ := zM (below_step (by repeat (first | (with_reducible first | exact HB.out | apply zL | apply zP | apply zW | refine zS ?_ GE210.out | refine zS ?_ GE218.out | refine zS ?_ GE223.out) | exact HB.out)) hb); clear BK210; clear BK218; clear BK223; clear HB; have BK210 := n0_; have BK218 := n1_; have BK223 := n2_; have HB := n3_; clear n0_ n1_ n2_ n3_; (try clear hb); (try clear hb2); (try clear hk); (try clear hi); have hcz42_0 : w41.cell? ⟨gb210, 0, none⟩ = some (.int .u32 a0_0) := (zC BK210.out 0).trans rfl; have hcz42_1 : w41.cell? ⟨gb210, 1, none⟩ = some (.int .u64 a0_1) := (zC BK210.out 1).trans rfl; have hcz42_2 : w41.cell? ⟨gb210, 2, none⟩ = some (.int .u32 a0_2) := (zC BK210.out 2).trans rfl; have hfz42_0 := zF BK210.out 0; have hfz42_1 := zF BK210.out 1; have hfz42_2 := zF BK210.out 2) | (go_at_call 10; (with_reducible refine (lodestoneref11_Put.calls k (⟨#[109, 97, 115, 116, 101, 114]⟩ : ByteArray) a0_0 a0_1 a0_2 a1 (a2.extract 0 ((ji4) : Int).toNat) t225 _ A23.out).mono ?_); rintro e w43 ⟨rfl, hb⟩; have n0_ := zM (zB (g := gb210) (o := .cells #[.int .u32 a0_0, .int .u64 a0_1, .int .u32 a0_2] 25 (0, 0)) (by (with_reducible repeat (first | refine zN ?_ _ | refine zD ?_ | refine zA ?_ _)); exact BK210.out) hb); have n1_ := zM (zB (g := gb218) (o := .cells #[.int .u32 a0_0, .int .u64 a0_1, .int .u32 a0_2] 25 (0, 0)) (by (with_reducible repeat (first | refine zN ?_ _ | refine zD ?_ | refine zA ?_ _)); exact BK218.out) hb); have n2_ := zM (zB (g := gb223) (o := .cells #[.int .u32 a0_0, .int .u64 a0_1, .int .u32 a0_2] 25 (0, 0)) (by (with_reducible repeat (first | refine zN ?_ _ | refine zD ?_ | refine zA ?_ _)); exact BK223.out) hb); have n3_ := zM (below_step (by repeat (first | (with_reducible first | exact HB.out | apply zL | apply zP | apply zW | refine zS ?_ GE210.out | refine zS ?_ GE218.out | refine zS ?_ GE223.out) | exact HB.out)) hb); clear BK210; clear BK218; clear BK223; clear HB; have BK210 := n0_; have BK218 := n1_; have BK223 := n2_; have HB := n3_; clear n0_ n1_ n2_ n3_; (try clear hb); (try clear hb2); (try clear hk); (try clear hi); have hcz44_0 : w43.cell? ⟨gb218, 0, none⟩ = some (.int .u32 a0_0) := (zC BK218.out 0).trans rfl; have hcz44_1 : w43.cell? ⟨gb218, 1, none⟩ = some (.int .u64 a0_1) := (zC BK218.out 1).trans rfl; have hcz44_2 : w43.cell? ⟨gb218, 2, none⟩ = some (.int .u32 a0_2) := (zC BK218.out 2).trans rfl; have hfz44_0 := zF BK218.out 0; have hfz44_1 := zF BK218.out 1; have hfz44_2 := zF BK218.out 2; have hcz45_0 : w43.cell? ⟨gb210, 0, none⟩ = some (.int .u32 a0_0) := (zC BK210.out 0).trans rfl; have hcz45_1 : w43.cell? ⟨gb210, 1, none⟩ = some (.int .u64 a0_1) := (zC BK210.out 1).trans rfl; have hcz45_2 : w43.cell? ⟨gb210, 2, none⟩ = some (.int .u32 a0_2) := (zC BK210.out 2).trans rfl; have hfz45_0 := zF BK210.out 0; have hfz45_1 := zF BK210.out 1; have hfz45_2 := zF BK210.out 2; have hcz46_0 : w43.cell? ⟨gb223, 0, none⟩ = some (.int .u32 a0_0) := (zC BK223.out 0).trans rfl; have hcz46_1 : w43.cell? ⟨gb223, 1, none⟩ = some (.int .u64 a0_1) := (zC BK223.out 1).trans rfl; have hcz46_2 : w43.cell? ⟨gb223, 2, none⟩ = some (.int .u32 a0_2) := (zC BK223.out 2).trans rfl; have hfz46_0 := zF BK223.out 0; have hfz46_1 := zF BK223.out 1; have hfz46_2 := zF BK223.out 2))
          go_ret
          exact ⟨by first | rfl | (simp [errW_none, errW_some] <;> rfl) | (simp only [← hji4]; first | rfl | (simp [errW_none, errW_some] <;> rfl)) | (simp [*, errW_none, errW_some] <;> rfl), by repeat (first | (with_reducible first | exact HB.out | apply zL | apply zP | apply zW | refine zS ?_ GE210.out | refine zS ?_ GE218.out | refine zS ?_ GE223.out) | exact HB.out)⟩
         ·rw [if_neg c28] at H
          have c28b0 : (t222 == 0) = false := beq_eq_false_iff_ne.mpr c28
          have c28b1 : (t222 != 0) = true := bne_iff_ne.mpr c28
          exact absurd (H.trans (congrArg some HR_.out)) (by simp)
        ·rw [if_neg c27] at H
         have c27n : ¬ (t213 = a0_0 ∧ t214 = a0_1 ∧ t215 = a0_2) := by simpa only [Bool.and_eq_true, beq_iff_eq] using c27
         have c27m : (¬ t213 = a0_0 ∨ ¬ t214 = a0_1 ∨ ¬ t215 = a0_2) := by simpa only [Classical.not_and_iff_not_or_not] using c27n
         have c27b0 : (t213 == a0_0 && (t214 == a0_1 && (t215 == a0_2))) = false := by simpa using c27
         (try (have c27b1 : decide (t213 = a0_0 && (t214 == a0_1 && (t215 == a0_2))) = false := by simpa using c27))
         (try (have c27b2 : (t213 == a0_0 && (t214 == a0_1 && (t215 == a0_2))) = false := by simpa using c27))
         (try (have c27b3 : ¬ (t213 = a0_0 && (t214 == a0_1 && (t215 == a0_2))) := by simpa using c27))
         clear c27
         exact absurd (H.trans (congrArg some HR_.out)) (by simp)
       ·rw [if_neg c26] at H
        have c26b0 : (t216.toList == (a2.extract 0 ((ji4) : Int).toNat).toList) = false := beq_eq_false_iff_ne.mpr c26
        have c26b1 : (t216.toList != (a2.extract 0 ((ji4) : Int).toNat).toList) = true := bne_iff_ne.mpr c26
        exact absurd (H.trans (congrArg some HR_.out)) (by simp)
      ·rw [if_neg c25] at H
       have c25b0 : (t217 == 0) = false := beq_eq_false_iff_ne.mpr c25
       have c25b1 : (t217 != 0) = true := bne_iff_ne.mpr c25
       exact absurd (H.trans (congrArg some HR_.out)) (by simp)
     ·rw [if_neg c24] at H
      have c24b0 : (t211.toList == t225.toList) = false := beq_eq_false_iff_ne.mpr c24
      have c24b1 : (t211.toList != t225.toList) = true := bne_iff_ne.mpr c24
      exact absurd (H.trans (congrArg some HR_.out)) (by simp)
    ·replace c22 := Bool.eq_false_iff.mpr c22
     subst c22
     have H1 : (some false) = some r := by rw [if_neg (show ¬ (false = true) by decide)] at H; exact H
     clear H
     have H := H1
     clear H1
     exact absurd (H.trans (congrArg some HR_.out)) (by simp)
  ·rw [if_neg c6] at H
   exact absurd H (by simp)
 ·rw [if_neg c5] at H
  exact absurd H (by simp)
end Go.Proofs.YtgbhjkkfleeodaaDoor.PBlockPuts
