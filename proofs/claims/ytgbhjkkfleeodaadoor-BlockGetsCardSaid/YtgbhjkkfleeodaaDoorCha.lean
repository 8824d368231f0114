import Derived.Test.YtgbhjkkfleeodaaDoorXA
import Derived.Test.YtgbhjkkfleeodaaDoorXI
import Derived.RegionTactic
import Derived.BigRegion
import Derived.Deep.RegionHeld3
import Derived.Test.YtgbhjkkfleeodaaDoorXU
import Derived.Test.YtgbhjkkfleeodaaDoorXB
import Derived.Test.YtgbhjkkfleeodaaDoorXM
namespace Go.Proofs.YtgbhjkkfleeodaaDoor.Cha
open Go.RowKit Go.Proofs.YtgbhjkkfleeodaaDoorW.PrintWords Go.Proofs.YtgbhjkkfleeodaaDoorW.PrintLast Go.Proofs.YtgbhjkkfleeodaaDoorW.PrintMore Go.Proofs.YtgbhjkkfleeodaaDoor.XA
open Go.Proofs.YtgbhjkkfleeodaaDoorW.PrintWords.Aside0 renaming mk → zM
open List renaming setIfInBounds_toArray → zT, set_cons_zero → zZ, set_cons_succ → zU
set_option linter.unusedVariables false
set_option linter.unusedSimpArgs false
def qa (xs : List Int) (p q : Nat) : List Int := xs.set p ((xs.getD p 0 + xs.getD q 0) % 4294967296)
def rl (n : Int) (k : Nat) : Int := Go.bits .or .u32 (n * 2 ^ k % 4294967296) (n / 2 ^ (32 - k))
def qx (xs : List Int) (p q k : Nat) : List Int := xs.set p (rl (Go.bits .xor .u32 (xs.getD p 0) (xs.getD q 0)) k)
theorem qa_length (xs : List Int) (p q : Nat) : (qa xs p q).length = xs.length := List.length_set
theorem qx_length (xs : List Int) (p q k : Nat) : (qx xs p q k).length = xs.length := List.length_set
def q4 (xs : List Int) (a b c d : Nat) : List Int := qx (qa (qx (qa (qx (qa (qx (qa xs a b) d a 16) c d) b c 12) a b) d a 8) c d) b c 7
theorem q4_length (xs : List Int) (a b c d : Nat) : (q4 xs a b c d).length = xs.length := by simp only [q4, qa_length, qx_length]
theorem rl_16 (n : Int) (w : World) : Calls Tryd.prog 85 #[.int .u32 n, .int .i64 16] w fun e w'' => e = .returned (.int .u32 (rl n 16)) ∧ ∃ m, w'' = w.drewN m := by
 have hb : Go.bits .and .u64 16 31 = 16 := by decide
 go_enter Tryd.func85, Tryd.ntmps85
 go_wp2
 go_ret
 exact ⟨rfl, 0, rfl⟩
theorem rl_12 (n : Int) (w : World) : Calls Tryd.prog 85 #[.int .u32 n, .int .i64 12] w fun e w'' => e = .returned (.int .u32 (rl n 12)) ∧ ∃ m, w'' = w.drewN m := by
 have hb : Go.bits .and .u64 12 31 = 12 := by decide
 go_enter Tryd.func85, Tryd.ntmps85
 go_wp2
 go_ret
 exact ⟨rfl, 0, rfl⟩
theorem rl_8 (n : Int) (w : World) : Calls Tryd.prog 85 #[.int .u32 n, .int .i64 8] w fun e w'' => e = .returned (.int .u32 (rl n 8)) ∧ ∃ m, w'' = w.drewN m := by
 have hb : Go.bits .and .u64 8 31 = 8 := by decide
 go_enter Tryd.func85, Tryd.ntmps85
 go_wp2
 go_ret
 exact ⟨rfl, 0, rfl⟩
theorem rl_7 (n : Int) (w : World) : Calls Tryd.prog 85 #[.int .u32 n, .int .i64 7] w fun e w'' => e = .returned (.int .u32 (rl n 7)) ∧ ∃ m, w'' = w.drewN m := by
 have hb : Go.bits .and .u64 7 31 = 7 := by decide
 go_enter Tryd.func85, Tryd.ntmps85
 go_wp2
 go_ret
 exact ⟨rfl, 0, rfl⟩
theorem SetBlk.refl' (w : World) (g : Nat) : SetBlk w w g := ⟨rfl, rfl, rfl, rfl, fun _ _ => rfl⟩
theorem SetBlk.put {w w1 : World} {g : Nat} (h : SetBlk w w1 g) (i : Nat) (v : Value) : SetBlk w (w1.setCell ⟨g, i, none⟩ v) g :=
 ⟨h.os, h.tape, h.output, by rw [← h.size]; simp, fun k hk => (Below.heap_setCell w1 ⟨g, i, none⟩ v k hk).trans (h.other k hk)⟩
theorem SetBlk.drew1 {w w1 : World} {g : Nat} (h : SetBlk w w1 g) : SetBlk w w1.drew g := ⟨h.os, h.tape, h.output, h.size, h.other⟩
theorem SetBlk.drewN' {w w1 : World} {g : Nat} (h : SetBlk w w1 g) (n : Nat) : SetBlk w (w1.drewN n) g := ⟨h.os, h.tape, h.output, h.size, h.other⟩
set_option maxHeartbeats 8000000 in
set_option maxRecDepth 100000 in
theorem quarter_calls (g a b c d : Nat) (ha : a < 16) (hb : b < 16) (hc : c < 16) (hd : d < 16) (xs : List Int) (hl : xs.length = 16) (w : World) (hX : IsArr w g 116 .u32 xs) :
  Calls Tryd.prog 75 #[.pointer (some ⟨g, 0, none⟩), .int .i64 a, .int .i64 b, .int .i64 c, .int .i64 d] w fun e w' => e = .returned (.tuple #[]) ∧ IsArr w' g 116 .u32 (q4 xs a b c d) ∧ SetBlk w w' g := by
 have a0 : (0 : Int) ≤ a := by omega
 have a1 : (a : Int) < 16 := by omega
 have b0 : (0 : Int) ≤ b := by omega
 have b1 : (b : Int) < 16 := by omega
 have c0 : (0 : Int) ≤ c := by omega
 have c1 : (c : Int) < 16 := by omega
 have d0 : (0 : Int) ≤ d := by omega
 have d1 : (d : Int) < 16 := by omega
 have HX := zM hX
 have HS := zM (SetBlk.refl' w g)
 have HL := zM hl
 clear hX hl
 go_enter Tryd.func75, Tryd.ntmps75
 obtain ⟨vp, hvp⟩ : ∃ v, xs.getD a 0 = v := ⟨_, rfl⟩
 obtain ⟨vq, hvq⟩ : ∃ v, xs.getD b 0 = v := ⟨_, rfl⟩
 have hcp : w.cell? ⟨g, a, none⟩ = some (.int .u32 vp) := by rw [← hvp]; exact HX.out.cell a (by rw [HL.out]; omega)
 have hcq : w.cell? ⟨g, b, none⟩ = some (.int .u32 vq) := by rw [← hvq]; exact HX.out.cell b (by rw [HL.out]; omega)
 have hfp := HX.out.frozen a
 have HV := zM (And.intro hvp hvq)
 clear hvp hvq
 go_wp2
 go_region
 have n0 : IsArr (w.setCell ⟨g, a, none⟩ (.int .u32 ((vp + vq) % 4294967296))).drew g 116 .u32 (qa xs a b) := by
  have h := IsArr.set HX.out a ((vp + vq) % 4294967296)
  rw [← HV.out.1, ← HV.out.2] at h ⊢
  exact h.drew
 have n1 := SetBlk.drew1 (SetBlk.put HS.out a (.int .u32 ((vp + vq) % 4294967296)))
 generalize (w.setCell ⟨g, a, none⟩ (.int .u32 ((vp + vq) % 4294967296))).drew = W0 at n0 n1 ⊢
 obtain ⟨y0, hy⟩ : ∃ y, qa xs a b = y := ⟨_, rfl⟩
 rw [hy] at n0
 have n2 := zM (show y0.length = 16 by rw [← hy, qa_length]; exact HL.out)
 have HY0 := zM hy
 have n3 := zM n0
 have n4 := zM n1
 clear n0 n1 hcp hcq hfp HX HS HL HV hy
 have HX := n3
 have HS := n4
 have HL := n2
 clear n2 n3 n4
 obtain ⟨vp, hvp⟩ : ∃ v, y0.getD d 0 = v := ⟨_, rfl⟩
 obtain ⟨vq, hvq⟩ : ∃ v, y0.getD a 0 = v := ⟨_, rfl⟩
 have hcp : W0.cell? ⟨g, d, none⟩ = some (.int .u32 vp) := by rw [← hvp]; exact HX.out.cell d (by rw [HL.out]; omega)
 have hcq : W0.cell? ⟨g, a, none⟩ = some (.int .u32 vq) := by rw [← hvq]; exact HX.out.cell a (by rw [HL.out]; omega)
 have hfp := HX.out.frozen d
 have HV := zM (And.intro hvp hvq)
 clear hvp hvq
 go_wp2
 refine start_ (n := 17) (S := fun w' => w'.cell? ⟨g, d, none⟩ = some (.int .u32 vp) ∧ w'.cell? ⟨g, a, none⟩ = some (.int .u32 vq)) (ds := [16]) #[false, false, false, false, false, false, false, false, false, false, false, false, false, false, false, false, false] (by kernel_rfl) rfl rfl ⟨hcp, hcq⟩ (fun hHeld => ?_)
 refine pure_ (i := 0) (N := some 23) (v := ?_) (a' := ?_) #[true, false, false, false, false, false, false, false, false, false, false, false, false, false, false, false, false] rfl rfl (by kernel_rfl) (fun _ _ _ h => h) (Or.inl ⟨by rfl, ?_⟩) ?_ ?_
 rotate_left
 ·intro w'
  go_simp
  with_reducible rfl
 rotate_left
 ·simp only [Act.put, zT, zZ, zU, i64_w, i32_w]
  rfl
 refine pure_ (i := 1) (N := some 24) (v := ?_) (a' := ?_) #[true, true, false, false, false, false, false, false, false, false, false, false, false, false, false, false, false] rfl rfl (by kernel_rfl) (fun _ _ _ h => h) (Or.inl ⟨by rfl, ?_⟩) ?_ ?_
 rotate_left
 ·intro w'
  go_simp
  with_reducible rfl
 rotate_left
 ·simp only [Act.put, zT, zZ, zU, i64_w, i32_w]
  rfl
 refine pure_ (i := 2) (N := some 25) (v := ?_) (a' := ?_) #[true, true, true, false, false, false, false, false, false, false, false, false, false, false, false, false, false] rfl rfl (by kernel_rfl) (fun _ _ _ h => h) (Or.inl ⟨by rfl, ?_⟩) ?_ ?_
 rotate_left
 ·intro w'
  go_simp
  with_reducible rfl
 rotate_left
 ·simp only [Act.put, zT, zZ, zU, i64_w, i32_w]
  rfl
 refine pure_ (i := 3) (N := some 26) (v := ?_) (a' := ?_) #[true, true, true, true, false, false, false, false, false, false, false, false, false, false, false, false, false] rfl rfl (by kernel_rfl) (fun _ _ _ h => h) (Or.inl ⟨by rfl, ?_⟩) ?_ ?_
 rotate_left
 ·intro w'
  go_simp
  with_reducible rfl
 rotate_left
 ·simp only [Act.put, zT, zZ, zU, i64_w, i32_w]
  rfl
 refine pure_ (i := 4) (N := some 27) (v := ?_) (a' := ?_) #[true, true, true, true, true, false, false, false, false, false, false, false, false, false, false, false, false] rfl rfl (by kernel_rfl) (fun _ _ _ h => h) (Or.inl ⟨by rfl, ?_⟩) ?_ ?_
 rotate_left
 ·intro w'
  go_simp
  with_reducible rfl
 rotate_left
 ·simp only [Act.put, zT, zZ, zU, i64_w, i32_w]
  rfl
 refine pure_ (i := 5) (N := some 28) (v := ?_) (a' := ?_) #[true, true, true, true, true, true, false, false, false, false, false, false, false, false, false, false, false] rfl rfl (by kernel_rfl) (fun _ _ _ h => h) (Or.inl ⟨by rfl, ?_⟩) ?_ ?_
 rotate_left
 ·intro w'
  go_simp
  with_reducible rfl
 rotate_left
 ·simp only [Act.put, zT, zZ, zU, i64_w, i32_w]
  rfl
 refine pure_ (i := 7) (N := some 30) (v := ?_) (a' := ?_) #[true, true, true, true, true, true, false, true, false, false, false, false, false, false, false, false, false] rfl rfl (by kernel_rfl) (fun _ _ _ h => h) (Or.inl ⟨by rfl, ?_⟩) ?_ ?_
 rotate_left
 ·intro w'
  go_simp
  with_reducible rfl
 rotate_left
 ·simp only [Act.put, zT, zZ, zU, i64_w, i32_w]
  rfl
 refine pure_ (i := 8) (N := some 31) (v := ?_) (a' := ?_) #[true, true, true, true, true, true, false, true, true, false, false, false, false, false, false, false, false] rfl rfl (by kernel_rfl) (fun _ _ _ h => h) (Or.inl ⟨by rfl, ?_⟩) ?_ ?_
 rotate_left
 ·intro w'
  go_simp
  with_reducible rfl
 rotate_left
 ·simp only [Act.put, zT, zZ, zU, i64_w, i32_w]
  rfl
 refine pure_ (i := 9) (N := some 32) (v := ?_) (a' := ?_) #[true, true, true, true, true, true, false, true, true, true, false, false, false, false, false, false, false] rfl rfl (by kernel_rfl) (fun _ _ _ h => h) (Or.inl ⟨by rfl, ?_⟩) ?_ ?_
 rotate_left
 ·intro w'
  go_simp
  with_reducible rfl
 rotate_left
 ·simp only [Act.put, zT, zZ, zU, i64_w, i32_w]
  rfl
 refine pure_ (i := 10) (N := some 33) (v := ?_) (a' := ?_) #[true, true, true, true, true, true, false, true, true, true, true, false, false, false, false, false, false] rfl rfl (by kernel_rfl) (fun _ _ _ h => h) (Or.inl ⟨by rfl, ?_⟩) ?_ ?_
 rotate_left
 ·intro w'
  go_simp
  with_reducible rfl
 rotate_left
 ·simp only [Act.put, zT, zZ, zU, i64_w, i32_w]
  rfl
 refine pure_ (i := 14) (N := some 37) (v := ?_) (a' := ?_) #[true, true, true, true, true, true, false, true, true, true, true, false, false, false, true, false, false] rfl rfl (by kernel_rfl) (fun _ _ _ h => h) (Or.inl ⟨by rfl, ?_⟩) ?_ ?_
 rotate_left
 ·intro w'
  go_simp
  with_reducible rfl
 rotate_left
 ·simp only [Act.put, zT, zZ, zU, i64_w, i32_w]
  rfl
 refine take_ (i := 6) (N := some 29) (v := ?_) (a' := ?_) #[true, true, true, true, true, true, true, true, true, true, true, false, false, false, true, false, false] rfl rfl (by kernel_rfl) (fun _ _ _ h => h) (Or.inl ⟨by rfl, ?_⟩) hHeld ?_ ?_
 rotate_left
 ·rintro w' ⟨s0, s1⟩
  go_simp
  with_reducible rfl
 rotate_left
 ·simp only [Act.put, zT, zZ, zU, i64_w, i32_w]
  rfl
 refine take_ (i := 11) (N := some 34) (v := ?_) (a' := ?_) #[true, true, true, true, true, true, true, true, true, true, true, true, false, false, true, false, false] rfl rfl (by kernel_rfl) (fun _ _ _ h => h) (Or.inl ⟨by rfl, ?_⟩) hHeld ?_ ?_
 rotate_left
 ·rintro w' ⟨s0, s1⟩
  go_simp
  with_reducible rfl
 rotate_left
 ·simp only [Act.put, zT, zZ, zU, i64_w, i32_w]
  rfl
 refine pure_ (i := 12) (N := some 35) (v := ?_) (a' := ?_) #[true, true, true, true, true, true, true, true, true, true, true, true, true, false, true, false, false] rfl rfl (by kernel_rfl) (fun _ _ _ h => h) (Or.inl ⟨by rfl, ?_⟩) ?_ ?_
 rotate_left
 ·intro w'
  go_simp
  with_reducible rfl
 rotate_left
 ·simp only [Act.put, zT, zZ, zU, i64_w, i32_w]
  rfl
 refine one_ (i := 13) (N := some 36) #[true, true, true, true, true, true, true, true, true, true, true, true, true, true, true, false, false] rfl rfl (by kernel_rfl) (by decide) (fun K hK => ?_)
 refine goes_ Tryd.func85 (by kernel_rfl) rfl #[.int .u32 (Go.bits .xor .u32 vp vq), .int .i64 16] (by rfl) rfl rfl (by simp only [List.map_toArray, List.map_cons, List.map_nil]; rfl) ?_
 with_reducible refine (rl_16 _ _).mono ?_
 rintro e w1 ⟨rfl, m, rfl⟩
 refine ⟨_, rfl, ?_⟩
 refine hK.out _ _ ⟨hHeld.1, hHeld.2⟩ (fun hHeld => ?_)
 clear hK K
 refine norm_ (a' := ?_) ?_ ?_
 rotate_left
 ·show Act.put _ (some 36) _ = _
  simp only [Act.put, zT, zZ, zU, i64_w, i32_w]
  rfl
 refine pure_ (i := 15) (N := some 38) (v := ?_) (a' := ?_) #[true, true, true, true, true, true, true, true, true, true, true, true, true, true, true, true, false] rfl rfl (by kernel_rfl) (fun _ _ _ h => h) (Or.inl ⟨by rfl, ?_⟩) ?_ ?_
 rotate_left
 ·intro w'
  go_simp
  with_reducible rfl
 rotate_left
 ·simp only [Act.put, zT, zZ, zU, i64_w, i32_w]
  rfl
 refine last_ (i := 16) (N := none) #[true, true, true, true, true, true, true, true, true, true, true, true, true, true, true, true, true] rfl rfl (by kernel_rfl) (by decide) (fun K hK => ?_)
 refine skip_ (w1 := ?_) (by rfl) rfl ?_ ?_
 rotate_left
 ·go_simp
  rfl
 refine hK.out _ _ ?_
 clear hK K
 refine done_ (by kernel_rfl) ?_
 have n0 : IsArr ((W0.drewN (1 + m)).setCell ⟨g, d, none⟩ (.int .u32 (rl (Go.bits .xor .u32 vp vq) 16))) g 116 .u32 (qx y0 d a 16) := by
  have h := IsArr.set (HX.out.drewN (1 + m)) d (rl (Go.bits .xor .u32 vp vq) 16)
  rw [← HV.out.1, ← HV.out.2] at h ⊢
  exact h
 have n1 := SetBlk.put (SetBlk.drewN' HS.out (1 + m)) d (.int .u32 (rl (Go.bits .xor .u32 vp vq) 16))
 generalize ((W0.drewN (1 + m)).setCell ⟨g, d, none⟩ (.int .u32 (rl (Go.bits .xor .u32 vp vq) 16))) = W1 at n0 n1 ⊢
 obtain ⟨y1, hy⟩ : ∃ y, qx y0 d a 16 = y := ⟨_, rfl⟩
 rw [hy] at n0
 have n2 := zM (show y1.length = 16 by rw [← hy, qx_length]; exact HL.out)
 have HY1 := zM hy
 have n3 := zM n0
 have n4 := zM n1
 clear n0 n1 hcp hcq hfp HX HS HL HV hy
 have HX := n3
 have HS := n4
 have HL := n2
 clear n2 n3 n4
 obtain ⟨vp, hvp⟩ : ∃ v, y1.getD c 0 = v := ⟨_, rfl⟩
 obtain ⟨vq, hvq⟩ : ∃ v, y1.getD d 0 = v := ⟨_, rfl⟩
 have hcp : W1.cell? ⟨g, c, none⟩ = some (.int .u32 vp) := by rw [← hvp]; exact HX.out.cell c (by rw [HL.out]; omega)
 have hcq : W1.cell? ⟨g, d, none⟩ = some (.int .u32 vq) := by rw [← hvq]; exact HX.out.cell d (by rw [HL.out]; omega)
 have hfp := HX.out.frozen c
 have HV := zM (And.intro hvp hvq)
 clear hvp hvq
 go_wp2
 go_region
 have n0 : IsArr (W1.setCell ⟨g, c, none⟩ (.int .u32 ((vp + vq) % 4294967296))).drew g 116 .u32 (qa y1 c d) := by
  have h := IsArr.set HX.out c ((vp + vq) % 4294967296)
  rw [← HV.out.1, ← HV.out.2] at h ⊢
  exact h.drew
 have n1 := SetBlk.drew1 (SetBlk.put HS.out c (.int .u32 ((vp + vq) % 4294967296)))
 generalize (W1.setCell ⟨g, c, none⟩ (.int .u32 ((vp + vq) % 4294967296))).drew = W2 at n0 n1 ⊢
 obtain ⟨y2, hy⟩ : ∃ y, qa y1 c d = y := ⟨_, rfl⟩
 rw [hy] at n0
 have n2 := zM (show y2.length = 16 by rw [← hy, qa_length]; exact HL.out)
 have HY2 := zM hy
 have n3 := zM n0
 have n4 := zM n1
 clear n0 n1 hcp hcq hfp HX HS HL HV hy
 have HX := n3
 have HS := n4
 have HL := n2
 clear n2 n3 n4
 obtain ⟨vp, hvp⟩ : ∃ v, y2.getD b 0 = v := ⟨_, rfl⟩
 obtain ⟨vq, hvq⟩ : ∃ v, y2.getD c 0 = v := ⟨_, rfl⟩
 have hcp : W2.cell? ⟨g, b, none⟩ = some (.int .u32 vp) := by rw [← hvp]; exact HX.out.cell b (by rw [HL.out]; omega)
 have hcq : W2.cell? ⟨g, c, none⟩ = some (.int .u32 vq) := by rw [← hvq]; exact HX.out.cell c (by rw [HL.out]; omega)
 have hfp := HX.out.frozen b
 have HV := zM (And.intro hvp hvq)
 clear hvp hvq
 go_wp2
 refine start_ (n := 17) (S := fun w' => w'.cell? ⟨g, b, none⟩ = some (.int .u32 vp) ∧ w'.cell? ⟨g, c, none⟩ = some (.int .u32 vq)) (ds := [16]) #[false, false, false, false, false, false, false, false, false, false, false, false, false, false, false, false, false] (by kernel_rfl) rfl rfl ⟨hcp, hcq⟩ (fun hHeld => ?_)
 refine pure_ (i := 0) (N := some 52) (v := ?_) (a' := ?_) #[true, false, false, false, false, false, false, false, false, false, false, false, false, false, false, false, false] rfl rfl (by kernel_rfl) (fun _ _ _ h => h) (Or.inl ⟨by rfl, ?_⟩) ?_ ?_
 rotate_left
 ·intro w'
  go_simp
  with_reducible rfl
 rotate_left
 ·simp only [Act.put, zT, zZ, zU, i64_w, i32_w]
  rfl
 refine pure_ (i := 1) (N := some 53) (v := ?_) (a' := ?_) #[true, true, false, false, false, false, false, false, false, false, false, false, false, false, false, false, false] rfl rfl (by kernel_rfl) (fun _ _ _ h => h) (Or.inl ⟨by rfl, ?_⟩) ?_ ?_
 rotate_left
 ·intro w'
  go_simp
  with_reducible rfl
 rotate_left
 ·simp only [Act.put, zT, zZ, zU, i64_w, i32_w]
  rfl
 refine pure_ (i := 2) (N := some 54) (v := ?_) (a' := ?_) #[true, true, true, false, false, false, false, false, false, false, false, false, false, false, false, false, false] rfl rfl (by kernel_rfl) (fun _ _ _ h => h) (Or.inl ⟨by rfl, ?_⟩) ?_ ?_
 rotate_left
 ·intro w'
  go_simp
  with_reducible rfl
 rotate_left
 ·simp only [Act.put, zT, zZ, zU, i64_w, i32_w]
  rfl
 refine pure_ (i := 3) (N := some 55) (v := ?_) (a' := ?_) #[true, true, true, true, false, false, false, false, false, false, false, false, false, false, false, false, false] rfl rfl (by kernel_rfl) (fun _ _ _ h => h) (Or.inl ⟨by rfl, ?_⟩) ?_ ?_
 rotate_left
 ·intro w'
  go_simp
  with_reducible rfl
 rotate_left
 ·simp only [Act.put, zT, zZ, zU, i64_w, i32_w]
  rfl
 refine pure_ (i := 4) (N := some 56) (v := ?_) (a' := ?_) #[true, true, true, true, true, false, false, false, false, false, false, false, false, false, false, false, false] rfl rfl (by kernel_rfl) (fun _ _ _ h => h) (Or.inl ⟨by rfl, ?_⟩) ?_ ?_
 rotate_left
 ·intro w'
  go_simp
  with_reducible rfl
 rotate_left
 ·simp only [Act.put, zT, zZ, zU, i64_w, i32_w]
  rfl
 refine pure_ (i := 5) (N := some 57) (v := ?_) (a' := ?_) #[true, true, true, true, true, true, false, false, false, false, false, false, false, false, false, false, false] rfl rfl (by kernel_rfl) (fun _ _ _ h => h) (Or.inl ⟨by rfl, ?_⟩) ?_ ?_
 rotate_left
 ·intro w'
  go_simp
  with_reducible rfl
 rotate_left
 ·simp only [Act.put, zT, zZ, zU, i64_w, i32_w]
  rfl
 refine pure_ (i := 7) (N := some 59) (v := ?_) (a' := ?_) #[true, true, true, true, true, true, false, true, false, false, false, false, false, false, false, false, false] rfl rfl (by kernel_rfl) (fun _ _ _ h => h) (Or.inl ⟨by rfl, ?_⟩) ?_ ?_
 rotate_left
 ·intro w'
  go_simp
  with_reducible rfl
 rotate_left
 ·simp only [Act.put, zT, zZ, zU, i64_w, i32_w]
  rfl
 refine pure_ (i := 8) (N := some 60) (v := ?_) (a' := ?_) #[true, true, true, true, true, true, false, true, true, false, false, false, false, false, false, false, false] rfl rfl (by kernel_rfl) (fun _ _ _ h => h) (Or.inl ⟨by rfl, ?_⟩) ?_ ?_
 rotate_left
 ·intro w'
  go_simp
  with_reducible rfl
 rotate_left
 ·simp only [Act.put, zT, zZ, zU, i64_w, i32_w]
  rfl
 refine pure_ (i := 9) (N := some 61) (v := ?_) (a' := ?_) #[true, true, true, true, true, true, false, true, true, true, false, false, false, false, false, false, false] rfl rfl (by kernel_rfl) (fun _ _ _ h => h) (Or.inl ⟨by rfl, ?_⟩) ?_ ?_
 rotate_left
 ·intro w'
  go_simp
  with_reducible rfl
 rotate_left
 ·simp only [Act.put, zT, zZ, zU, i64_w, i32_w]
  rfl
 refine pure_ (i := 10) (N := some 62) (v := ?_) (a' := ?_) #[true, true, true, true, true, true, false, true, true, true, true, false, false, false, false, false, false] rfl rfl (by kernel_rfl) (fun _ _ _ h => h) (Or.inl ⟨by rfl, ?_⟩) ?_ ?_
 rotate_left
 ·intro w'
  go_simp
  with_reducible rfl
 rotate_left
 ·simp only [Act.put, zT, zZ, zU, i64_w, i32_w]
  rfl
 refine pure_ (i := 14) (N := some 66) (v := ?_) (a' := ?_) #[true, true, true, true, true, true, false, true, true, true, true, false, false, false, true, false, false] rfl rfl (by kernel_rfl) (fun _ _ _ h => h) (Or.inl ⟨by rfl, ?_⟩) ?_ ?_
 rotate_left
 ·intro w'
  go_simp
  with_reducible rfl
 rotate_left
 ·simp only [Act.put, zT, zZ, zU, i64_w, i32_w]
  rfl
 refine take_ (i := 6) (N := some 58) (v := ?_) (a' := ?_) #[true, true, true, true, true, true, true, true, true, true, true, false, false, false, true, false, false] rfl rfl (by kernel_rfl) (fun _ _ _ h => h) (Or.inl ⟨by rfl, ?_⟩) hHeld ?_ ?_
 rotate_left
 ·rintro w' ⟨s0, s1⟩
  go_simp
  with_reducible rfl
 rotate_left
 ·simp only [Act.put, zT, zZ, zU, i64_w, i32_w]
  rfl
 refine take_ (i := 11) (N := some 63) (v := ?_) (a' := ?_) #[true, true, true, true, true, true, true, true, true, true, true, true, false, false, true, false, false] rfl rfl (by kernel_rfl) (fun _ _ _ h => h) (Or.inl ⟨by rfl, ?_⟩) hHeld ?_ ?_
 rotate_left
 ·rintro w' ⟨s0, s1⟩
  go_simp
  with_reducible rfl
 rotate_left
 ·simp only [Act.put, zT, zZ, zU, i64_w, i32_w]
  rfl
 refine pure_ (i := 12) (N := some 64) (v := ?_) (a' := ?_) #[true, true, true, true, true, true, true, true, true, true, true, true, true, false, true, false, false] rfl rfl (by kernel_rfl) (fun _ _ _ h => h) (Or.inl ⟨by rfl, ?_⟩) ?_ ?_
 rotate_left
 ·intro w'
  go_simp
  with_reducible rfl
 rotate_left
 ·simp only [Act.put, zT, zZ, zU, i64_w, i32_w]
  rfl
 refine one_ (i := 13) (N := some 65) #[true, true, true, true, true, true, true, true, true, true, true, true, true, true, true, false, false] rfl rfl (by kernel_rfl) (by decide) (fun K hK => ?_)
 refine goes_ Tryd.func85 (by kernel_rfl) rfl #[.int .u32 (Go.bits .xor .u32 vp vq), .int .i64 12] (by rfl) rfl rfl (by simp only [List.map_toArray, List.map_cons, List.map_nil]; rfl) ?_
 with_reducible refine (rl_12 _ _).mono ?_
 rintro e w1 ⟨rfl, m, rfl⟩
 refine ⟨_, rfl, ?_⟩
 refine hK.out _ _ ⟨hHeld.1, hHeld.2⟩ (fun hHeld => ?_)
 clear hK K
 refine norm_ (a' := ?_) ?_ ?_
 rotate_left
 ·show Act.put _ (some 65) _ = _
  simp only [Act.put, zT, zZ, zU, i64_w, i32_w]
  rfl
 refine pure_ (i := 15) (N := some 67) (v := ?_) (a' := ?_) #[true, true, true, true, true, true, true, true, true, true, true, true, true, true, true, true, false] rfl rfl (by kernel_rfl) (fun _ _ _ h => h) (Or.inl ⟨by rfl, ?_⟩) ?_ ?_
 rotate_left
 ·intro w'
  go_simp
  with_reducible rfl
 rotate_left
 ·simp only [Act.put, zT, zZ, zU, i64_w, i32_w]
  rfl
 refine last_ (i := 16) (N := none) #[true, true, true, true, true, true, true, true, true, true, true, true, true, true, true, true, true] rfl rfl (by kernel_rfl) (by decide) (fun K hK => ?_)
 refine skip_ (w1 := ?_) (by rfl) rfl ?_ ?_
 rotate_left
 ·go_simp
  rfl
 refine hK.out _ _ ?_
 clear hK K
 refine done_ (by kernel_rfl) ?_
 have n0 : IsArr ((W2.drewN (1 + m)).setCell ⟨g, b, none⟩ (.int .u32 (rl (Go.bits .xor .u32 vp vq) 12))) g 116 .u32 (qx y2 b c 12) := by
  have h := IsArr.set (HX.out.drewN (1 + m)) b (rl (Go.bits .xor .u32 vp vq) 12)
  rw [← HV.out.1, ← HV.out.2] at h ⊢
  exact h
 have n1 := SetBlk.put (SetBlk.drewN' HS.out (1 + m)) b (.int .u32 (rl (Go.bits .xor .u32 vp vq) 12))
 generalize ((W2.drewN (1 + m)).setCell ⟨g, b, none⟩ (.int .u32 (rl (Go.bits .xor .u32 vp vq) 12))) = W3 at n0 n1 ⊢
 obtain ⟨y3, hy⟩ : ∃ y, qx y2 b c 12 = y := ⟨_, rfl⟩
 rw [hy] at n0
 have n2 := zM (show y3.length = 16 by rw [← hy, qx_length]; exact HL.out)
 have HY3 := zM hy
 have n3 := zM n0
 have n4 := zM n1
 clear n0 n1 hcp hcq hfp HX HS HL HV hy
 have HX := n3
 have HS := n4
 have HL := n2
 clear n2 n3 n4
 obtain ⟨vp, hvp⟩ : ∃ v, y3.getD a 0 = v := ⟨_, rfl⟩
 obtain ⟨vq, hvq⟩ : ∃ v, y3.getD b 0 = v := ⟨_, rfl⟩
 have hcp : W3.cell? ⟨g, a, none⟩ = some (.int .u32 vp) := by rw [← hvp]; exact HX.out.cell a (by rw [HL.out]; omega)
 have hcq : W3.cell? ⟨g, b, none⟩ = some (.int .u32 vq) := by rw [← hvq]; exact HX.out.cell b (by rw [HL.out]; omega)
 have hfp := HX.out.frozen a
 have HV := zM (And.intro hvp hvq)
 clear hvp hvq
 go_wp2
 go_region
 have n0 : IsArr (W3.setCell ⟨g, a, none⟩ (.int .u32 ((vp + vq) % 4294967296))).drew g 116 .u32 (qa y3 a b) := by
  have h := IsArr.set HX.out a ((vp + vq) % 4294967296)
  rw [← HV.out.1, ← HV.out.2] at h ⊢
  exact h.drew
 have n1 := SetBlk.drew1 (SetBlk.put HS.out a (.int .u32 ((vp + vq) % 4294967296)))
 generalize (W3.setCell ⟨g, a, none⟩ (.int .u32 ((vp + vq) % 4294967296))).drew = W4 at n0 n1 ⊢
 obtain ⟨y4, hy⟩ : ∃ y, qa y3 a b = y := ⟨_, rfl⟩
 rw [hy] at n0
 have n2 := zM (show y4.length = 16 by rw [← hy, qa_length]; exact HL.out)
 have HY4 := zM hy
 have n3 := zM n0
 have n4 := zM n1
 clear n0 n1 hcp hcq hfp HX HS HL HV hy
 have HX := n3
 have HS := n4
 have HL := n2
 clear n2 n3 n4
 obtain ⟨vp, hvp⟩ : ∃ v, y4.getD d 0 = v := ⟨_, rfl⟩
 obtain ⟨vq, hvq⟩ : ∃ v, y4.getD a 0 = v := ⟨_, rfl⟩
 have hcp : W4.cell? ⟨g, d, none⟩ = some (.int .u32 vp) := by rw [← hvp]; exact HX.out.cell d (by rw [HL.out]; omega)
 have hcq : W4.cell? ⟨g, a, none⟩ = some (.int .u32 vq) := by rw [← hvq]; exact HX.out.cell a (by rw [HL.out]; omega)
 have hfp := HX.out.frozen d
 have HV := zM (And.intro hvp hvq)
 clear hvp hvq
 go_wp2
 refine start_ (n := 17) (S := fun w' => w'.cell? ⟨g, d, none⟩ = some (.int .u32 vp) ∧ w'.cell? ⟨g, a, none⟩ = some (.int .u32 vq)) (ds := [16]) #[false, false, false, false, false, false, false, false, false, false, false, false, false, false, false, false, false] (by kernel_rfl) rfl rfl ⟨hcp, hcq⟩ (fun hHeld => ?_)
 refine pure_ (i := 0) (N := some 81) (v := ?_) (a' := ?_) #[true, false, false, false, false, false, false, false, false, false, false, false, false, false, false, false, false] rfl rfl (by kernel_rfl) (fun _ _ _ h => h) (Or.inl ⟨by rfl, ?_⟩) ?_ ?_
 rotate_left
 ·intro w'
  go_simp
  with_reducible rfl
 rotate_left
 ·simp only [Act.put, zT, zZ, zU, i64_w, i32_w]
  rfl
 refine pure_ (i := 1) (N := some 82) (v := ?_) (a' := ?_) #[true, true, false, false, false, false, false, false, false, false, false, false, false, false, false, false, false] rfl rfl (by kernel_rfl) (fun _ _ _ h => h) (Or.inl ⟨by rfl, ?_⟩) ?_ ?_
 rotate_left
 ·intro w'
  go_simp
  with_reducible rfl
 rotate_left
 ·simp only [Act.put, zT, zZ, zU, i64_w, i32_w]
  rfl
 refine pure_ (i := 2) (N := some 83) (v := ?_) (a' := ?_) #[true, true, true, false, false, false, false, false, false, false, false, false, false, false, false, false, false] rfl rfl (by kernel_rfl) (fun _ _ _ h => h) (Or.inl ⟨by rfl, ?_⟩) ?_ ?_
 rotate_left
 ·intro w'
  go_simp
  with_reducible rfl
 rotate_left
 ·simp only [Act.put, zT, zZ, zU, i64_w, i32_w]
  rfl
 refine pure_ (i := 3) (N := some 84) (v := ?_) (a' := ?_) #[true, true, true, true, false, false, false, false, false, false, false, false, false, false, false, false, false] rfl rfl (by kernel_rfl) (fun _ _ _ h => h) (Or.inl ⟨by rfl, ?_⟩) ?_ ?_
 rotate_left
 ·intro w'
  go_simp
  with_reducible rfl
 rotate_left
 ·simp only [Act.put, zT, zZ, zU, i64_w, i32_w]
  rfl
 refine pure_ (i := 4) (N := some 85) (v := ?_) (a' := ?_) #[true, true, true, true, true, false, false, false, false, false, false, false, false, false, false, false, false] rfl rfl (by kernel_rfl) (fun _ _ _ h => h) (Or.inl ⟨by rfl, ?_⟩) ?_ ?_
 rotate_left
 ·intro w'
  go_simp
  with_reducible rfl
 rotate_left
 ·simp only [Act.put, zT, zZ, zU, i64_w, i32_w]
  rfl
 refine pure_ (i := 5) (N := some 86) (v := ?_) (a' := ?_) #[true, true, true, true, true, true, false, false, false, false, false, false, false, false, false, false, false] rfl rfl (by kernel_rfl) (fun _ _ _ h => h) (Or.inl ⟨by rfl, ?_⟩) ?_ ?_
 rotate_left
 ·intro w'
  go_simp
  with_reducible rfl
 rotate_left
 ·simp only [Act.put, zT, zZ, zU, i64_w, i32_w]
  rfl
 refine pure_ (i := 7) (N := some 88) (v := ?_) (a' := ?_) #[true, true, true, true, true, true, false, true, false, false, false, false, false, false, false, false, false] rfl rfl (by kernel_rfl) (fun _ _ _ h => h) (Or.inl ⟨by rfl, ?_⟩) ?_ ?_
 rotate_left
 ·intro w'
  go_simp
  with_reducible rfl
 rotate_left
 ·simp only [Act.put, zT, zZ, zU, i64_w, i32_w]
  rfl
 refine pure_ (i := 8) (N := some 89) (v := ?_) (a' := ?_) #[true, true, true, true, true, true, false, true, true, false, false, false, false, false, false, false, false] rfl rfl (by kernel_rfl) (fun _ _ _ h => h) (Or.inl ⟨by rfl, ?_⟩) ?_ ?_
 rotate_left
 ·intro w'
  go_simp
  with_reducible rfl
 rotate_left
 ·simp only [Act.put, zT, zZ, zU, i64_w, i32_w]
  rfl
 refine pure_ (i := 9) (N := some 90) (v := ?_) (a' := ?_) #[true, true, true, true, true, true, false, true, true, true, false, false, false, false, false, false, false] rfl rfl (by kernel_rfl) (fun _ _ _ h => h) (Or.inl ⟨by rfl, ?_⟩) ?_ ?_
 rotate_left
 ·intro w'
  go_simp
  with_reducible rfl
 rotate_left
 ·simp only [Act.put, zT, zZ, zU, i64_w, i32_w]
  rfl
 refine pure_ (i := 10) (N := some 91) (v := ?_) (a' := ?_) #[true, true, true, true, true, true, false, true, true, true, true, false, false, false, false, false, false] rfl rfl (by kernel_rfl) (fun _ _ _ h => h) (Or.inl ⟨by rfl, ?_⟩) ?_ ?_
 rotate_left
 ·intro w'
  go_simp
  with_reducible rfl
 rotate_left
 ·simp only [Act.put, zT, zZ, zU, i64_w, i32_w]
  rfl
 refine pure_ (i := 14) (N := some 95) (v := ?_) (a' := ?_) #[true, true, true, true, true, true, false, true, true, true, true, false, false, false, true, false, false] rfl rfl (by kernel_rfl) (fun _ _ _ h => h) (Or.inl ⟨by rfl, ?_⟩) ?_ ?_
 rotate_left
 ·intro w'
  go_simp
  with_reducible rfl
 rotate_left
 ·simp only [Act.put, zT, zZ, zU, i64_w, i32_w]
  rfl
 refine take_ (i := 6) (N := some 87) (v := ?_) (a' := ?_) #[true, true, true, true, true, true, true, true, true, true, true, false, false, false, true, false, false] rfl rfl (by kernel_rfl) (fun _ _ _ h => h) (Or.inl ⟨by rfl, ?_⟩) hHeld ?_ ?_
 rotate_left
 ·rintro w' ⟨s0, s1⟩
  go_simp
  with_reducible rfl
 rotate_left
 ·simp only [Act.put, zT, zZ, zU, i64_w, i32_w]
  rfl
 refine take_ (i := 11) (N := some 92) (v := ?_) (a' := ?_) #[true, true, true, true, true, true, true, true, true, true, true, true, false, false, true, false, false] rfl rfl (by kernel_rfl) (fun _ _ _ h => h) (Or.inl ⟨by rfl, ?_⟩) hHeld ?_ ?_
 rotate_left
 ·rintro w' ⟨s0, s1⟩
  go_simp
  with_reducible rfl
 rotate_left
 ·simp only [Act.put, zT, zZ, zU, i64_w, i32_w]
  rfl
 refine pure_ (i := 12) (N := some 93) (v := ?_) (a' := ?_) #[true, true, true, true, true, true, true, true, true, true, true, true, true, false, true, false, false] rfl rfl (by kernel_rfl) (fun _ _ _ h => h) (Or.inl ⟨by rfl, ?_⟩) ?_ ?_
 rotate_left
 ·intro w'
  go_simp
  with_reducible rfl
 rotate_left
 ·simp only [Act.put, zT, zZ, zU, i64_w, i32_w]
  rfl
 refine one_ (i := 13) (N := some 94) #[true, true, true, true, true, true, true, true, true, true, true, true, true, true, true, false, false] rfl rfl (by kernel_rfl) (by decide) (fun K hK => ?_)
 refine goes_ Tryd.func85 (by kernel_rfl) rfl #[.int .u32 (Go.bits .xor .u32 vp vq), .int .i64 8] (by rfl) rfl rfl (by simp only [List.map_toArray, List.map_cons, List.map_nil]; rfl) ?_
 with_reducible refine (rl_8 _ _).mono ?_
 rintro e w1 ⟨rfl, m, rfl⟩
 refine ⟨_, rfl, ?_⟩
 refine hK.out _ _ ⟨hHeld.1, hHeld.2⟩ (fun hHeld => ?_)
 clear hK K
 refine norm_ (a' := ?_) ?_ ?_
 rotate_left
 ·show Act.put _ (some 94) _ = _
  simp only [Act.put, zT, zZ, zU, i64_w, i32_w]
  rfl
 refine pure_ (i := 15) (N := some 96) (v := ?_) (a' := ?_) #[true, true, true, true, true, true, true, true, true, true, true, true, true, true, true, true, false] rfl rfl (by kernel_rfl) (fun _ _ _ h => h) (Or.inl ⟨by rfl, ?_⟩) ?_ ?_
 rotate_left
 ·intro w'
  go_simp
  with_reducible rfl
 rotate_left
 ·simp only [Act.put, zT, zZ, zU, i64_w, i32_w]
  rfl
 refine last_ (i := 16) (N := none) #[true, true, true, true, true, true, true, true, true, true, true, true, true, true, true, true, true] rfl rfl (by kernel_rfl) (by decide) (fun K hK => ?_)
 refine skip_ (w1 := ?_) (by rfl) rfl ?_ ?_
 rotate_left
 ·go_simp
  rfl
 refine hK.out _ _ ?_
 clear hK K
 refine done_ (by kernel_rfl) ?_
 have n0 : IsArr ((W4.drewN (1 + m)).setCell ⟨g, d, none⟩ (.int .u32 (rl (Go.bits .xor .u32 vp vq) 8))) g 116 .u32 (qx y4 d a 8) := by
  have h := IsArr.set (HX.out.drewN (1 + m)) d (rl (Go.bits .xor .u32 vp vq) 8)
  rw [← HV.out.1, ← HV.out.2] at h ⊢
  exact h
 have n1 := SetBlk.put (SetBlk.drewN' HS.out (1 + m)) d (.int .u32 (rl (Go.bits .xor .u32 vp vq) 8))
 generalize ((W4.drewN (1 + m)).setCell ⟨g, d, none⟩ (.int .u32 (rl (Go.bits .xor .u32 vp vq) 8))) = W5 at n0 n1 ⊢
 obtain ⟨y5, hy⟩ : ∃ y, qx y4 d a 8 = y := ⟨_, rfl⟩
 rw [hy] at n0
 have n2 := zM (show y5.length = 16 by rw [← hy, qx_length]; exact HL.out)
 have HY5 := zM hy
 have n3 := zM n0
 have n4 := zM n1
 clear n0 n1 hcp hcq hfp HX HS HL HV hy
 have HX := n3
 have HS := n4
 have HL := n2
 clear n2 n3 n4
 obtain ⟨vp, hvp⟩ : ∃ v, y5.getD c 0 = v := ⟨_, rfl⟩
 obtain ⟨vq, hvq⟩ : ∃ v, y5.getD d 0 = v := ⟨_, rfl⟩
 have hcp : W5.cell? ⟨g, c, none⟩ = some (.int .u32 vp) := by rw [← hvp]; exact HX.out.cell c (by rw [HL.out]; omega)
 have hcq : W5.cell? ⟨g, d, none⟩ = some (.int .u32 vq) := by rw [← hvq]; exact HX.out.cell d (by rw [HL.out]; omega)
 have hfp := HX.out.frozen c
 have HV := zM (And.intro hvp hvq)
 clear hvp hvq
 go_wp2
 go_region
 have n0 : IsArr (W5.setCell ⟨g, c, none⟩ (.int .u32 ((vp + vq) % 4294967296))).drew g 116 .u32 (qa y5 c d) := by
  have h := IsArr.set HX.out c ((vp + vq) % 4294967296)
  rw [← HV.out.1, ← HV.out.2] at h ⊢
  exact h.drew
 have n1 := SetBlk.drew1 (SetBlk.put HS.out c (.int .u32 ((vp + vq) % 4294967296)))
 generalize (W5.setCell ⟨g, c, none⟩ (.int .u32 ((vp + vq) % 4294967296))).drew = W6 at n0 n1 ⊢
 obtain ⟨y6, hy⟩ : ∃ y, qa y5 c d = y := ⟨_, rfl⟩
 rw [hy] at n0
 have n2 := zM (show y6.length = 16 by rw [← hy, qa_length]; exact HL.out)
 have HY6 := zM hy
 have n3 := zM n0
 have n4 := zM n1
 clear n0 n1 hcp hcq hfp HX HS HL HV hy
 have HX := n3
 have HS := n4
 have HL := n2
 clear n2 n3 n4
 obtain ⟨vp, hvp⟩ : ∃ v, y6.getD b 0 = v := ⟨_, rfl⟩
 obtain ⟨vq, hvq⟩ : ∃ v, y6.getD c 0 = v := ⟨_, rfl⟩
 have hcp : W6.cell? ⟨g, b, none⟩ = some (.int .u32 vp) := by rw [← hvp]; exact HX.out.cell b (by rw [HL.out]; omega)
 have hcq : W6.cell? ⟨g, c, none⟩ = some (.int .u32 vq) := by rw [← hvq]; exact HX.out.cell c (by rw [HL.out]; omega)
 have hfp := HX.out.frozen b
 have HV := zM (And.intro hvp hvq)
 clear hvp hvq
 go_wp2
 refine start_ (n := 17) (S := fun w' => w'.cell? ⟨g, b, none⟩ = some (.int .u32 vp) ∧ w'.cell? ⟨g, c, none⟩ = some (.int .u32 vq)) (ds := [16]) #[false, false, false, false, false, false, false, false, false, false, false, false, false, false, false, false, false] (by kernel_rfl) rfl rfl ⟨hcp, hcq⟩ (fun hHeld => ?_)
 refine pure_ (i := 0) (N := some 110) (v := ?_) (a' := ?_) #[true, false, false, false, false, false, false, false, false, false, false, false, false, false, false, false, false] rfl rfl (by kernel_rfl) (fun _ _ _ h => h) (Or.inl ⟨by rfl, ?_⟩) ?_ ?_
 rotate_left
 ·intro w'
  go_simp
  with_reducible rfl
 rotate_left
 ·simp only [Act.put, zT, zZ, zU, i64_w, i32_w]
  rfl
 refine pure_ (i := 1) (N := some 111) (v := ?_) (a' := ?_) #[true, true, false, false, false, false, false, false, false, false, false, false, false, false, false, false, false] rfl rfl (by kernel_rfl) (fun _ _ _ h => h) (Or.inl ⟨by rfl, ?_⟩) ?_ ?_
 rotate_left
 ·intro w'
  go_simp
  with_reducible rfl
 rotate_left
 ·simp only [Act.put, zT, zZ, zU, i64_w, i32_w]
  rfl
 refine pure_ (i := 2) (N := some 112) (v := ?_) (a' := ?_) #[true, true, true, false, false, false, false, false, false, false, false, false, false, false, false, false, false] rfl rfl (by kernel_rfl) (fun _ _ _ h => h) (Or.inl ⟨by rfl, ?_⟩) ?_ ?_
 rotate_left
 ·intro w'
  go_simp
  with_reducible rfl
 rotate_left
 ·simp only [Act.put, zT, zZ, zU, i64_w, i32_w]
  rfl
 refine pure_ (i := 3) (N := some 113) (v := ?_) (a' := ?_) #[true, true, true, true, false, false, false, false, false, false, false, false, false, false, false, false, false] rfl rfl (by kernel_rfl) (fun _ _ _ h => h) (Or.inl ⟨by rfl, ?_⟩) ?_ ?_
 rotate_left
 ·intro w'
  go_simp
  with_reducible rfl
 rotate_left
 ·simp only [Act.put, zT, zZ, zU, i64_w, i32_w]
  rfl
 refine pure_ (i := 4) (N := some 114) (v := ?_) (a' := ?_) #[true, true, true, true, true, false, false, false, false, false, false, false, false, false, false, false, false] rfl rfl (by kernel_rfl) (fun _ _ _ h => h) (Or.inl ⟨by rfl, ?_⟩) ?_ ?_
 rotate_left
 ·intro w'
  go_simp
  with_reducible rfl
 rotate_left
 ·simp only [Act.put, zT, zZ, zU, i64_w, i32_w]
  rfl
 refine pure_ (i := 5) (N := some 115) (v := ?_) (a' := ?_) #[true, true, true, true, true, true, false, false, false, false, false, false, false, false, false, false, false] rfl rfl (by kernel_rfl) (fun _ _ _ h => h) (Or.inl ⟨by rfl, ?_⟩) ?_ ?_
 rotate_left
 ·intro w'
  go_simp
  with_reducible rfl
 rotate_left
 ·simp only [Act.put, zT, zZ, zU, i64_w, i32_w]
  rfl
 refine pure_ (i := 7) (N := some 117) (v := ?_) (a' := ?_) #[true, true, true, true, true, true, false, true, false, false, false, false, false, false, false, false, false] rfl rfl (by kernel_rfl) (fun _ _ _ h => h) (Or.inl ⟨by rfl, ?_⟩) ?_ ?_
 rotate_left
 ·intro w'
  go_simp
  with_reducible rfl
 rotate_left
 ·simp only [Act.put, zT, zZ, zU, i64_w, i32_w]
  rfl
 refine pure_ (i := 8) (N := some 118) (v := ?_) (a' := ?_) #[true, true, true, true, true, true, false, true, true, false, false, false, false, false, false, false, false] rfl rfl (by kernel_rfl) (fun _ _ _ h => h) (Or.inl ⟨by rfl, ?_⟩) ?_ ?_
 rotate_left
 ·intro w'
  go_simp
  with_reducible rfl
 rotate_left
 ·simp only [Act.put, zT, zZ, zU, i64_w, i32_w]
  rfl
 refine pure_ (i := 9) (N := some 119) (v := ?_) (a' := ?_) #[true, true, true, true, true, true, false, true, true, true, false, false, false, false, false, false, false] rfl rfl (by kernel_rfl) (fun _ _ _ h => h) (Or.inl ⟨by rfl, ?_⟩) ?_ ?_
 rotate_left
 ·intro w'
  go_simp
  with_reducible rfl
 rotate_left
 ·simp only [Act.put, zT, zZ, zU, i64_w, i32_w]
  rfl
 refine pure_ (i := 10) (N := some 120) (v := ?_) (a' := ?_) #[true, true, true, true, true, true, false, true, true, true, true, false, false, false, false, false, false] rfl rfl (by kernel_rfl) (fun _ _ _ h => h) (Or.inl ⟨by rfl, ?_⟩) ?_ ?_
 rotate_left
 ·intro w'
  go_simp
  with_reducible rfl
 rotate_left
 ·simp only [Act.put, zT, zZ, zU, i64_w, i32_w]
  rfl
 refine pure_ (i := 14) (N := some 124) (v := ?_) (a' := ?_) #[true, true, true, true, true, true, false, true, true, true, true, false, false, false, true, false, false] rfl rfl (by kernel_rfl) (fun _ _ _ h => h) (Or.inl ⟨by rfl, ?_⟩) ?_ ?_
 rotate_left
 ·intro w'
  go_simp
  with_reducible rfl
 rotate_left
 ·simp only [Act.put, zT, zZ, zU, i64_w, i32_w]
  rfl
 refine take_ (i := 6) (N := some 116) (v := ?_) (a' := ?_) #[true, true, true, true, true, true, true, true, true, true, true, false, false, false, true, false, false] rfl rfl (by kernel_rfl) (fun _ _ _ h => h) (Or.inl ⟨by rfl, ?_⟩) hHeld ?_ ?_
 rotate_left
 ·rintro w' ⟨s0, s1⟩
  go_simp
  with_reducible rfl
 rotate_left
 ·simp only [Act.put, zT, zZ, zU, i64_w, i32_w]
  rfl
 refine take_ (i := 11) (N := some 121) (v := ?_) (a' := ?_) #[true, true, true, true, true, true, true, true, true, true, true, true, false, false, true, false, false] rfl rfl (by kernel_rfl) (fun _ _ _ h => h) (Or.inl ⟨by rfl, ?_⟩) hHeld ?_ ?_
 rotate_left
 ·rintro w' ⟨s0, s1⟩
  go_simp
  with_reducible rfl
 rotate_left
 ·simp only [Act.put, zT, zZ, zU, i64_w, i32_w]
  rfl
 refine pure_ (i := 12) (N := some 122) (v := ?_) (a' := ?_) #[true, true, true, true, true, true, true, true, true, true, true, true, true, false, true, false, false] rfl rfl (by kernel_rfl) (fun _ _ _ h => h) (Or.inl ⟨by rfl, ?_⟩) ?_ ?_
 rotate_left
 ·intro w'
  go_simp
  with_reducible rfl
 rotate_left
 ·simp only [Act.put, zT, zZ, zU, i64_w, i32_w]
  rfl
 refine one_ (i := 13) (N := some 123) #[true, true, true, true, true, true, true, true, true, true, true, true, true, true, true, false, false] rfl rfl (by kernel_rfl) (by decide) (fun K hK => ?_)
 refine goes_ Tryd.func85 (by kernel_rfl) rfl #[.int .u32 (Go.bits .xor .u32 vp vq), .int .i64 7] (by rfl) rfl rfl (by simp only [List.map_toArray, List.map_cons, List.map_nil]; rfl) ?_
 with_reducible refine (rl_7 _ _).mono ?_
 rintro e w1 ⟨rfl, m, rfl⟩
 refine ⟨_, rfl, ?_⟩
 refine hK.out _ _ ⟨hHeld.1, hHeld.2⟩ (fun hHeld => ?_)
 clear hK K
 refine norm_ (a' := ?_) ?_ ?_
 rotate_left
 ·show Act.put _ (some 123) _ = _
  simp only [Act.put, zT, zZ, zU, i64_w, i32_w]
  rfl
 refine pure_ (i := 15) (N := some 125) (v := ?_) (a' := ?_) #[true, true, true, true, true, true, true, true, true, true, true, true, true, true, true, true, false] rfl rfl (by kernel_rfl) (fun _ _ _ h => h) (Or.inl ⟨by rfl, ?_⟩) ?_ ?_
 rotate_left
 ·intro w'
  go_simp
  with_reducible rfl
 rotate_left
 ·simp only [Act.put, zT, zZ, zU, i64_w, i32_w]
  rfl
 refine last_ (i := 16) (N := none) #[true, true, true, true, true, true, true, true, true, true, true, true, true, true, true, true, true] rfl rfl (by kernel_rfl) (by decide) (fun K hK => ?_)
 refine skip_ (w1 := ?_) (by rfl) rfl ?_ ?_
 rotate_left
 ·go_simp
  rfl
 refine hK.out _ _ ?_
 clear hK K
 refine done_ (by kernel_rfl) ?_
 have n0 : IsArr ((W6.drewN (1 + m)).setCell ⟨g, b, none⟩ (.int .u32 (rl (Go.bits .xor .u32 vp vq) 7))) g 116 .u32 (qx y6 b c 7) := by
  have h := IsArr.set (HX.out.drewN (1 + m)) b (rl (Go.bits .xor .u32 vp vq) 7)
  rw [← HV.out.1, ← HV.out.2] at h ⊢
  exact h
 have n1 := SetBlk.put (SetBlk.drewN' HS.out (1 + m)) b (.int .u32 (rl (Go.bits .xor .u32 vp vq) 7))
 generalize ((W6.drewN (1 + m)).setCell ⟨g, b, none⟩ (.int .u32 (rl (Go.bits .xor .u32 vp vq) 7))) = W7 at n0 n1 ⊢
 obtain ⟨y7, hy⟩ : ∃ y, qx y6 b c 7 = y := ⟨_, rfl⟩
 rw [hy] at n0
 have n2 := zM (show y7.length = 16 by rw [← hy, qx_length]; exact HL.out)
 have HY7 := zM hy
 have n3 := zM n0
 have n4 := zM n1
 clear n0 n1 hcp hcq hfp HX HS HL HV hy
 have HX := n3
 have HS := n4
 have HL := n2
 clear n2 n3 n4
 go_wp2
 go_end0
 refine ⟨rfl, ?_, HS.out⟩
 have e : q4 xs a b c d = y7 := by
  unfold q4
  rw [HY0.out, HY1.out, HY2.out, HY3.out, HY4.out, HY5.out, HY6.out, HY7.out]
 rw [e]
 exact HX.out
end Go.Proofs.YtgbhjkkfleeodaaDoor.Cha
namespace Go.Proofs.YtgbhjkkfleeodaaDoor.Cha
open Go.RowKit Go.Proofs.YtgbhjkkfleeodaaDoorW.PrintWords Go.Proofs.YtgbhjkkfleeodaaDoorW.PrintLast Go.Proofs.YtgbhjkkfleeodaaDoorW.PrintMore Go.Proofs.YtgbhjkkfleeodaaDoor.XA Go.Proofs.YtgbhjkkfleeodaaDoor.XU Go.Proofs.YtgbhjkkfleeodaaDoor.XB
open Go.Proofs.YtgbhjkkfleeodaaDoorW.PrintWords.Aside0 renaming mk → zM
open List renaming setIfInBounds_toArray → zT, set_cons_zero → zZ, set_cons_succ → zU
set_option linter.unusedVariables false
set_option linter.unusedSimpArgs false
def rw4 (s : ByteArray) (at_ : Int) : Int := bt s at_ + bt s (at_ + 1) * 256 + bt s (at_ + 2) * 65536 + bt s (at_ + 3) * 16777216
theorem or4 {a b c d : Int} (ha : 0 ≤ a ∧ a ≤ 255) (hb : 0 ≤ b ∧ b ≤ 255) (hc : 0 ≤ c ∧ c ≤ 255) (hd : 0 ≤ d ∧ d ≤ 255) :
  Go.bits .or .u32 (Go.bits .or .u32 (Go.bits .or .u32 a (b * 256)) (c * 65536)) (d * 16777216) = a + b * 256 + c * 65536 + d * 16777216 := by
 have e1 := (or_add (x := a) (y := b) 8 (by unfold U; omega) (by unfold U; omega) (by omega) (by omega)).1
 have e2 := (or_add (x := a + b * 2 ^ 8) (y := c) 16 (by unfold U; omega) (by unfold U; omega) (by omega) (by omega)).1
 have e3 := (or_add (x := a + b * 2 ^ 8 + c * 2 ^ 16) (y := d) 24 (by unfold U; omega) (by unfold U; omega) (by omega) (by omega)).1
 rw [show (256 : Int) = 2 ^ 8 from rfl, show (65536 : Int) = 2 ^ 16 from rfl, show (16777216 : Int) = 2 ^ 24 from rfl, e1, e2, e3]
set_option maxHeartbeats 4000000 in
theorem word_calls (s : ByteArray) (hs : 4 ≤ s.size) (w : World) : Calls Tryd.prog 84 #[.string s] w fun e w' => e = .returned (.int .u32 (rw4 s 0)) ∧ ∃ m, w' = w.drewN m := by
 have q0 : ((0 : Int) < (s.size : Int)) = True := eq_true (by omega)
 have q1 : ((1 : Int) < (s.size : Int)) = True := eq_true (by omega)
 have q2 : ((2 : Int) < (s.size : Int)) = True := eq_true (by omega)
 have q3 : ((3 : Int) < (s.size : Int)) = True := eq_true (by omega)
 have n0 : (0 < s.size) = True := eq_true (by omega)
 have n1 : (1 < s.size) = True := eq_true (by omega)
 have n2 : (2 < s.size) = True := eq_true (by omega)
 have n3 : (3 < s.size) = True := eq_true (by omega)
 have h0 : ∀ h : 0 < s.size, ((s[0]'h).toNat : Int) = bt s 0 := bt_at s 0
 have h1 : ∀ h : 1 < s.size, ((s[1]'h).toNat : Int) = bt s 1 := bt_at s 1
 have h2 : ∀ h : 2 < s.size, ((s[2]'h).toNat : Int) = bt s 2 := bt_at s 2
 have h3 : ∀ h : 3 < s.size, ((s[3]'h).toNat : Int) = bt s 3 := bt_at s 3
 have HO := zM (or4 (bt_range s 0) (bt_range s 1) (bt_range s 2) (bt_range s 3))
 go_enter Tryd.func84, Tryd.ntmps84
 go_wp2
 go_quiet (fail)
 all_goals go_wp2
 all_goals go_ret
 have r0 := bt_range s 0
 have r1 := bt_range s 1
 have r2 := bt_range s 2
 have r3 := bt_range s 3
 refine ⟨congrArg (fun x => Ending.returned (Value.int .u32 x)) (show Go.bits .or .u32 (Go.bits .or .u32 (Go.bits .or .u32 (bt s 0 % 4294967296) (bt s 1 % 4294967296 * 256 % 4294967296)) (bt s 2 % 4294967296 * 65536 % 4294967296)) (bt s 3 % 4294967296 * 16777216 % 4294967296) = rw4 s 0 from ?_), nq, rfl⟩
 rw [show bt s 0 % 4294967296 = bt s 0 by omega, show bt s 1 % 4294967296 * 256 % 4294967296 = bt s 1 * 256 by omega, show bt s 2 % 4294967296 * 65536 % 4294967296 = bt s 2 * 65536 by omega, show bt s 3 % 4294967296 * 16777216 % 4294967296 = bt s 3 * 16777216 by omega]
 exact HO.out
theorem bt_nat (s : ByteArray) (j : Nat) : bt s (j : Int) = (bytesOf s).getD j 0 := by
 rw [← rd_bytesOf]; rfl
theorem bt_drop (s : ByteArray) (a j : Nat) (ha : a + j < s.size) : bt (s.extract a s.size) (j : Int) = bt s ((a + j : Nat) : Int) := by
 rw [bt_nat, bt_nat]
 have e : bytesOf (s.extract a s.size) = (bytesOf s).drop a := by
  unfold bytesOf
  rw [extract_data, List.map_take, List.map_drop, List.take_of_length_le]
  rw [List.length_drop, List.length_map, data_len]
  exact Nat.le_refl _
 rw [e, List.getD_eq_getElem?_getD, List.getD_eq_getElem?_getD, List.getElem?_drop]
theorem rw4_drop (s : ByteArray) (i : Nat) (h : 4 * i + 4 ≤ s.size) : rw4 (s.extract (4 * i) s.size) 0 = rw4 s (4 * (i : Int)) := by
 have h0 := bt_drop s (4 * i) 0 (by omega)
 have h1 := bt_drop s (4 * i) 1 (by omega)
 have h2 := bt_drop s (4 * i) 2 (by omega)
 have h3 := bt_drop s (4 * i) 3 (by omega)
 unfold rw4
 simp only [Int.zero_add, Int.natCast_add, Int.natCast_mul, Int.natCast_zero, Int.natCast_one, Int.add_zero, Int.cast_ofNat_Int] at h0 h1 h2 h3 ⊢
 rw [h0, h1, h2, h3]
theorem rw4_U (s : ByteArray) (i : Int) : U (rw4 s i) := by
 have r0 := bt_range s i
 have r1 := bt_range s (i + 1)
 have r2 := bt_range s (i + 2)
 have r3 := bt_range s (i + 3)
 unfold U rw4
 omega
def k0L : List Int := [1634760805, 857760878, 2036477234, 1797285236, 0, 0, 0, 0, 0, 0, 0, 0, 0, 0, 0, 0]
def z16 : List Int := List.replicate 16 0
def lay (xs : List Int) (p : Nat) (s : ByteArray) : Nat → List Int
 | 0 => xs
 | i + 1 => (lay xs p s i).set (p + i) (rw4 s (4 * (i : Int)))
theorem lay_length (xs : List Int) (p : Nat) (s : ByteArray) (i : Nat) : (lay xs p s i).length = xs.length := by
 induction i with
 | zero => rfl
 | succ i ih => rw [lay, List.length_set, ih]
theorem lay_U {xs : List Int} (h : AU xs) (p : Nat) (s : ByteArray) (i : Nat) : AU (lay xs p s i) := by
 induction i with
 | zero => exact h
 | succ i ih => exact ih.set _ (rw4_U _ _)
def firstL (key nonce : ByteArray) (n : Int) : List Int := lay ((lay k0L 4 key 8).set 12 n) 13 nonce 3
theorem firstL_length (key nonce : ByteArray) (n : Int) : (firstL key nonce n).length = 16 := by
 rw [firstL, lay_length, List.length_set, lay_length]; rfl
set_option maxHeartbeats 8000000 in
set_option maxRecDepth 100000 in
theorem begin_calls (key nonce : ByteArray) (n : Int) (hk : key.size = 32) (hn : nonce.size = 12) (w : World) :
  Calls Tryd.prog 74 #[.string key, .int .u32 n, .string nonce] w fun e w' => e = .returned (.agg (arrK .u32 (firstL key nonce n))) ∧ Below w.heap.size w w' := by
 have HB := zM (Below.refl w.heap.size w)
 go_enter Tryd.func74, Tryd.ntmps74
 go_wp2_with (first
  | ((with_reducible refine gate_dst (N := 6) rfl ?_); refine arr_new ?hg (N := 6) ?hd z16 .u32 116 ?hr ?_; (case hd => rfl); (case hg => rfl); (case hr => first | (go_simp; done) | (go_simp; rfl)); intro gr eg w1 hx hb; have HR := zM hx; have n0 := zM (below_step HB.out hb); have LR := zM (show w.heap.size ≤ gr by rw [eg]; exact HB.out.size); clear HB hx hb eg; have HB := n0; clear n0)
  | ((with_reducible refine gate_dst (N := 7) rfl ?_); refine arr_new ?hg (N := 7) ?hd z16 .u32 116 ?hr ?_; (case hd => rfl); (case hg => rfl); (case hr => first | (go_simp; done) | (go_simp; rfl)); intro gx eg w2 hx hb; have n1 := zM (HR.out.below hb); have HX := zM hx; have n0 := zM (below_step HB.out hb); have LX := zM (show w.heap.size ≤ gx by rw [eg]; exact HB.out.size); have NRX := zM (show gr ≠ gx by rw [eg]; exact Nat.ne_of_lt HR.out.lt); clear HB HR hx hb eg; have HB := n0; have HR := n1; clear n0 n1)
  | ((with_reducible refine gate_store (t := 116) (p := 7) (v := .tmp 10) rfl ?_); refine arr_store rfl rfl 116 (.tmp 7) (.tmp 10) rfl gx .u32 z16 k0L rfl rfl 116 HX.out (by kernel_rfl) rfl ?_; intro w4 hx hs; have n0 := zM (hs.below HB.out LX.out); have n1 := zM (hs.arr HR.out NRX.out); clear HB HX HR; have HX := zM hx; have HB := n0; have HR := n1; clear n0 n1 hx hs))
 go_loopw [11] (fun i wr => ∃ k : Nat, k ≤ 8 ∧ i = .int .i64 k ∧ IsArr wr gr 116 .u32 z16 ∧ IsArr wr gx 116 .u32 (lay k0L 4 key k) ∧ Below w.heap.size w wr) (fun i _ => 8 - (intOf i).toNat)
 case atStart => exact ⟨0, by omega, rfl, HR.out, HX.out, HB.out⟩
 case round =>
  clear HR HX HB
  obtain ⟨k, hkk, rfl, hR, hX, hB⟩ := hrel
  have HR := zM hR; have HB := zM hB; have HX := zM hX
  clear hR hB hX
  by_cases hlt : k < 8
  ·have q0 : decide ((k : Int) < 8) = true := decide_eq_true (by omega)
   have q1 : (0 : Int) ≤ k := by omega
   have q4 : (0 : Int) ≤ 4 * (k : Int) := by omega
   have q5 : 4 * (k : Int) ≤ (key.size : Int) := by omega
   have hsl : ∀ W : World, (Instr.slice 9 (.string key) (some (.int .i64 (4 * (k : Int)))) none none).run Tryd.prog W = .ok (.string (key.extract (4 * k) key.size)) W := fun W => by
    have h := run_slice_string_from_if (P := Tryd.prog) (w := W) 9 key .i64 (4 * (k : Int)) Tryd.underlying9
    rw [h, if_pos (by omega)]
    have e1 : (4 * (k : Int)).toNat = 4 * k := by omega
    rw [e1]
   obtain ⟨sl, hsl2⟩ : ∃ x, key.extract (4 * k) key.size = x := ⟨_, rfl⟩
   have hsz : 4 ≤ sl.size := by rw [← hsl2, ByteArray.size_extract]; omega
   have hval := rw4_drop key k (by omega)
   rw [hsl2] at hval hsl
   have HV := zM hval
   have HSZ := zM hsz
   clear hval hsl2 hsz
   obtain ⟨xs, hxs⟩ : ∃ xs, lay k0L 4 key k = xs := ⟨_, rfl⟩
   have hxl : xs.length = 16 := by rw [← hxs, lay_length]; rfl
   rw [hxs] at HX
   have HN := zM (show lay k0L 4 key (k + 1) = xs.set (4 + k) (rw4 key (4 * (k : Int))) by rw [← hxs]; rfl)
   clear hxs
   obtain ⟨vo, hvo⟩ : ∃ v, wr.cell? ⟨gx, 4 + k, none⟩ = some (.int .u32 v) := ⟨_, HX.out.cell (4 + k) (by omega)⟩
   have hfo := HX.out.frozen (4 + k)
   have r1 : IntKind.i64.wrap (4 + (k : Int)) = 4 + (k : Int) := by rw [IntKind.wrap_i64]; omega
   have r2 : (0 : Int) ≤ 4 + (k : Int) := by omega
   have r3 : 4 + (k : Int) < 16 := by omega
   have r4 : (4 + (k : Int)).toNat = 4 + k := by omega
   have HXL := zM hxl
   clear hxl
   go_wp2_with (first
    | (go_at_call 84; with_reducible refine (word_calls _ HSZ.out _).mono ?_; rintro e w' ⟨rfl, m, rfl⟩; rw [HV.out]))
   go_roundw
   case rel =>
    exact ⟨k + 1, by omega, by go_num, (HR.out.drewN m).far NRX.out _, by rw [HN.out]; exact (HX.out.drewN m).set (4 + k) _, below_set (pw_below_drewN HB.out m) LX.out⟩
   case measure => simp [intOf]; omega
  ·have ek : k = 8 := by omega
   subst ek
   rw [show ((8 : Nat) : Int) = 8 from rfl]
   obtain ⟨y0, hy0⟩ : ∃ y, lay k0L 4 key 8 = y := ⟨_, rfl⟩
   rw [hy0] at HX
   have HL0 := zM (show y0.length = 16 by rw [← hy0, lay_length]; rfl)
   obtain ⟨vo, hvo⟩ : ∃ v, wr.cell? ⟨gx, 12, none⟩ = some (.int .u32 v) := ⟨_, HX.out.cell 12 (by rw [HL0.out]; omega)⟩
   have hfo := HX.out.frozen 12
   have H0 := zM hy0
   clear hy0
   go_wp2
   have n1 := (HX.out.set 12 n)
   have n2 := (HR.out.far (p := ⟨gx, 12, none⟩) NRX.out (.int .u32 n))
   have n3 := (below_set (g := gx) (j := 12) (v := .int .u32 n) HB.out LX.out)
   generalize wr.setCell ⟨gx, 12, none⟩ (.int .u32 n) = w5 at n1 n2 n3 ⊢
   obtain ⟨y1, hy1⟩ : ∃ y, y0.set 12 n = y := ⟨_, rfl⟩
   rw [hy1] at n1
   have HL1 := zM (show y1.length = 16 by rw [← hy1, List.length_set]; exact HL0.out)
   have H1 := zM hy1
   clear hy1 HX HR HB hvo hfo
   have HX := zM n1
   have HR := zM n2
   have HB := zM n3
   clear n1 n2 n3
   go_loopw [25] (fun i wr => ∃ k : Nat, k ≤ 3 ∧ i = .int .i64 k ∧ IsArr wr gr 116 .u32 z16 ∧ IsArr wr gx 116 .u32 (lay y1 13 nonce k) ∧ Below w.heap.size w wr) (fun i _ => 3 - (intOf i).toNat)
   case atStart => exact ⟨0, by omega, rfl, HR.out, HX.out, HB.out⟩
   case round =>
    clear HR HX HB
    obtain ⟨k, hkk, rfl, hR, hX, hB⟩ := hrel
    have HR := zM hR; have HB := zM hB; have HX := zM hX
    clear hR hB hX
    by_cases hlt : k < 3
    ·have q0 : decide ((k : Int) < 3) = true := decide_eq_true (by omega)
     have q1 : (0 : Int) ≤ k := by omega
     have q4 : (0 : Int) ≤ 4 * (k : Int) := by omega
     have q5 : 4 * (k : Int) ≤ (nonce.size : Int) := by omega
     have hsl : ∀ W : World, (Instr.slice 9 (.string nonce) (some (.int .i64 (4 * (k : Int)))) none none).run Tryd.prog W = .ok (.string (nonce.extract (4 * k) nonce.size)) W := fun W => by
      have h := run_slice_string_from_if (P := Tryd.prog) (w := W) 9 nonce .i64 (4 * (k : Int)) Tryd.underlying9
      rw [h, if_pos (by omega)]
      have e1 : (4 * (k : Int)).toNat = 4 * k := by omega
      rw [e1]
     obtain ⟨sl, hsl2⟩ : ∃ x, nonce.extract (4 * k) nonce.size = x := ⟨_, rfl⟩
     have hsz : 4 ≤ sl.size := by rw [← hsl2, ByteArray.size_extract]; omega
     have hval := rw4_drop nonce k (by omega)
     rw [hsl2] at hval hsl
     have HV := zM hval
     have HSZ := zM hsz
     clear hval hsl2 hsz
     obtain ⟨xs, hxs⟩ : ∃ xs, lay y1 13 nonce k = xs := ⟨_, rfl⟩
     have hxl : xs.length = 16 := by rw [← hxs, lay_length]; exact HL1.out
     rw [hxs] at HX
     have HN := zM (show lay y1 13 nonce (k + 1) = xs.set (13 + k) (rw4 nonce (4 * (k : Int))) by rw [← hxs]; rfl)
     clear hxs
     obtain ⟨vo, hvo⟩ : ∃ v, wr.cell? ⟨gx, 13 + k, none⟩ = some (.int .u32 v) := ⟨_, HX.out.cell (13 + k) (by omega)⟩
     have hfo := HX.out.frozen (13 + k)
     have r1 : IntKind.i64.wrap (13 + (k : Int)) = 13 + (k : Int) := by rw [IntKind.wrap_i64]; omega
     have r2 : (0 : Int) ≤ 13 + (k : Int) := by omega
     have r3 : 13 + (k : Int) < 16 := by omega
     have r4 : (13 + (k : Int)).toNat = 13 + k := by omega
     have HXL := zM hxl
     clear hxl
     go_wp2_with (first
      | (go_at_call 84; with_reducible refine (word_calls _ HSZ.out _).mono ?_; rintro e w' ⟨rfl, m, rfl⟩; rw [HV.out]))
     go_roundw
     case rel =>
      exact ⟨k + 1, by omega, by go_num, (HR.out.drewN m).far NRX.out _, by rw [HN.out]; exact (HX.out.drewN m).set (13 + k) _, below_set (pw_below_drewN HB.out m) LX.out⟩
     case measure => simp [intOf]; omega
    ·have ek : k = 3 := by omega
     subst ek
     rw [show ((3 : Nat) : Int) = 3 from rfl]
     obtain ⟨y2, hy2⟩ : ∃ y, lay y1 13 nonce 3 = y := ⟨_, rfl⟩
     rw [hy2] at HX
     have HL2 := zM (show y2.length = 16 by rw [← hy2, lay_length]; exact HL1.out)
     have HE := zM (show firstL key nonce n = y2 by rw [firstL, H0.out, H1.out, hy2])
     clear hy2
     go_wp2_with (first
      | ((with_reducible refine gate_dst (N := 37) rfl ?_); refine arr_load rfl 116 (.tmp 7) rfl gx 16 22 .u32 y2 rfl 116 HX.out Tryd.underlying116 (by rw [HL2.out]; kernel_rfl) ?_)
      | ((with_reducible refine gate_store (t := 116) (p := 6) (v := .tmp 37) rfl ?_); refine arr_store rfl rfl 116 (.tmp 6) (.tmp 37) rfl gr .u32 z16 y2 rfl rfl 116 HR.out (by rw [HL2.out]; kernel_rfl) (by rw [HL2.out]; rfl) ?_; intro w9 hx hs; have G1 := zM (hs.below HB.out LR.out); have G2 := zM hx; clear hx hs))
     exact bodyPost_ret (results_arr (k := .u32) rfl _ _ gr 16 22 y2 116 rfl G2.out Tryd.underlying116 (by rw [HL2.out]; kernel_rfl)) rfl ⟨by rw [HE.out], G1.out⟩
end Go.Proofs.YtgbhjkkfleeodaaDoor.Cha
namespace Go.Proofs.YtgbhjkkfleeodaaDoor.Cha
open Go.RowKit Go.Proofs.YtgbhjkkfleeodaaDoorW.PrintWords Go.Proofs.YtgbhjkkfleeodaaDoorW.PrintLast Go.Proofs.YtgbhjkkfleeodaaDoorW.PrintMore Go.Proofs.YtgbhjkkfleeodaaDoor.XA Go.Proofs.YtgbhjkkfleeodaaDoor.XU Go.Proofs.YtgbhjkkfleeodaaDoor.XB Go.Proofs.YtgbhjkkfleeodaaDoor.XM
open Go.Proofs.YtgbhjkkfleeodaaDoorW.PrintWords.Aside0 renaming mk → zM
open List renaming setIfInBounds_toArray → zT, set_cons_zero → zZ, set_cons_succ → zU
set_option linter.unusedVariables false
set_option linter.unusedSimpArgs false
def colL (xs : List Int) : Nat → List Int
 | 0 => xs
 | k + 1 => q4 (colL xs k) k (4 + k) (8 + k) (12 + k)
def dgL (xs : List Int) : Nat → List Int
 | 0 => xs
 | k + 1 => q4 (dgL xs k) k (4 + (k + 1) % 4) (8 + (k + 2) % 4) (12 + (k + 3) % 4)
def rn (xs : List Int) : Nat → List Int
 | 0 => xs
 | j + 1 => dgL (colL (rn xs j) 4) 4
theorem colL_length (xs : List Int) (k : Nat) : (colL xs k).length = xs.length := by
 induction k with
 | zero => rfl
 | succ k ih => rw [colL, q4_length, ih]
theorem dgL_length (xs : List Int) (k : Nat) : (dgL xs k).length = xs.length := by
 induction k with
 | zero => rfl
 | succ k ih => rw [dgL, q4_length, ih]
theorem rn_length (xs : List Int) (k : Nat) : (rn xs k).length = xs.length := by
 induction k with
 | zero => rfl
 | succ k ih => rw [rn, dgL_length, colL_length, ih]
def outB (xs fs : List Int) : Nat → List Int
 | 0 => []
 | k + 1 => outB xs fs k ++ [(xs.getD k 0 + fs.getD k 0) % 4294967296 % 256, (xs.getD k 0 + fs.getD k 0) % 4294967296 / 256 % 256, (xs.getD k 0 + fs.getD k 0) % 4294967296 / 65536 % 256, (xs.getD k 0 + fs.getD k 0) % 4294967296 / 16777216 % 256]
theorem outB_length (xs fs : List Int) (k : Nat) : (outB xs fs k).length = 4 * k := by
 induction k with
 | zero => rfl
 | succ k ih => rw [outB, List.length_append, ih]; simp; omega
def blkL (key nonce : ByteArray) (n : Int) : List Int := outB (rn (firstL key nonce n) 10) (firstL key nonce n) 16
def blk (key nonce : ByteArray) (n : Int) : ByteArray := strOfNums (blkL key nonce n)
theorem blk_size (key nonce : ByteArray) (n : Int) : (blk key nonce n).size = 64 := by
 rw [blk, strOfNums_size, blkL, outB_length]
theorem info5 : (Tryd.prog.info? 5).map (fun i => (i.zero, i.size, i.bytes)) = some (some (.int .u8 0), 1, 1) := by kernel_rfl
theorem four_cells (W : World) (T : TypeId) (a b c d : Value) : ∀ j u, [a, b, c, d][j]? = some u → (W.alloc (.cells #[a, b, c, d] T)).cell? ((⟨W.heap.size, 0, none⟩ : Addr).add j) = some u := by
 intro j u hu
 rw [add_plain, blk_cell (blk_new W _) j]
 simpa using hu
theorem run_index_arr {P : Program} (T E n : Nat) (kd : IntKind) (ws : List Int) (k : Nat) (hu : P.underlying T = some (.array n E)) (hE : (P.info? E).map (·.size) = some 1) (he : P.underlying E = some (.int kd)) (hk : k < n) (hl : ws.length = n) (W : World) :
  (Instr.index T (.agg (arrK kd ws)) (.int .i64 (k : Int))).run P W = .ok (.int kd (ws.getD k 0)) W := by
 obtain ⟨i, hi, hs⟩ := Option.map_eq_some_iff.1 hE
 have hg := arrK_get kd ws k (by omega)
 have h1 : (0 : Int) ≤ k ∧ (k : Int) < n := by omega
 simp [Instr.index, Sem.run_bind, run_underlying hu, asIntOf, h1, sizeOf, typeInfo, hi, hs, part, isAgg, run_underlying he, hg, hk, Result.andThen]
theorem may_true (key nonce : ByteArray) (hk : key.size = 32) (hn : nonce.size = 12) (w : World) : Calls Tryd.prog 37 #[.string key, .string nonce] w fun e w' => e = .returned (.bool true) ∧ w' = w := by
 have c1 : ((key.size : Int) == 32) = true := by rw [hk]; rfl
 have c2 : ((nonce.size : Int) == 12) = true := by rw [hn]; rfl
 clear hk hn
 go_enter Tryd.func37, Tryd.ntmps37
 go_wp2
 go_ret
 exact ⟨rfl, rfl⟩
theorem may_false (key nonce : ByteArray) (h : ¬ (key.size = 32 ∧ nonce.size = 12)) (w : World) : Calls Tryd.prog 37 #[.string key, .string nonce] w fun e w' => e = .returned (.bool false) ∧ w' = w := by
 by_cases hk : key.size = 32
 ·have c1 : ((key.size : Int) == 32) = true := by rw [hk]; rfl
  have c2 : ((nonce.size : Int) == 12) = false := by rw [beq_eq_false_iff_ne]; omega
  clear hk h
  go_enter Tryd.func37, Tryd.ntmps37
  go_wp2
  go_ret
  exact ⟨rfl, rfl⟩
 ·have c1 : ((key.size : Int) == 32) = false := by rw [beq_eq_false_iff_ne]; omega
  clear hk h
  go_enter Tryd.func37, Tryd.ntmps37
  go_wp2
  go_ret
  exact ⟨rfl, rfl⟩
end Go.Proofs.YtgbhjkkfleeodaaDoor.Cha
namespace Go.Proofs.YtgbhjkkfleeodaaDoor.Cha
open Go.RowKit Go.Proofs.YtgbhjkkfleeodaaDoorW.PrintWords Go.Proofs.YtgbhjkkfleeodaaDoorW.PrintLast Go.Proofs.YtgbhjkkfleeodaaDoorW.PrintMore Go.Proofs.YtgbhjkkfleeodaaDoor.XA Go.Proofs.YtgbhjkkfleeodaaDoor.XU Go.Proofs.YtgbhjkkfleeodaaDoor.XB Go.Proofs.YtgbhjkkfleeodaaDoor.XM
open Go.Proofs.YtgbhjkkfleeodaaDoorW.PrintWords.Aside0 renaming mk → zM
open List renaming setIfInBounds_toArray → zT, set_cons_zero → zZ, set_cons_succ → zU
set_option linter.unusedVariables false
set_option linter.unusedSimpArgs false
set_option maxHeartbeats 8000000 in
set_option maxRecDepth 100000 in
theorem block_calls (key nonce : ByteArray) (n : Int) (hk : key.size = 32) (hn : nonce.size = 12) (w : World) :
  Calls Tryd.prog 61 #[.string key, .string nonce, .int .u32 n] w fun e w' => e = .returned (.string (blk key nonce n)) ∧ Below w.heap.size w w' := by
 have HB := zM (Below.refl w.heap.size w)
 obtain ⟨fs, hfs⟩ : ∃ fs, firstL key nonce n = fs := ⟨_, rfl⟩
 have HFL := zM (show fs.length = 16 by rw [← hfs]; exact firstL_length key nonce n)
 have HFS := zM hfs
 have HKN := zM (And.intro hk hn)
 clear hfs hk hn
 go_enter Tryd.func61, Tryd.ntmps61
 go_wp2_with (first
  | (go_at_call 37; with_reducible refine (may_true key nonce HKN.out.1 HKN.out.2 _).mono ?_; rintro e w' ⟨rfl, hw⟩; obtain rfl := hw.symm)
  | (go_at_call 74; refine (begin_calls key nonce n HKN.out.1 HKN.out.2 _).mono ?_; rintro e w1 ⟨rfl, hb⟩; rw [HFS.out]; have n0 := zM (below_step HB.out hb); clear HB hb; have HB := n0; clear n0)
  | ((with_reducible refine gate_dst (N := 7) rfl ?_); refine arr_new ?hg (N := 7) ?hd z16 .u32 116 ?hr ?_; (case hd => rfl); (case hg => rfl); (case hr => first | (go_simp; done) | (go_simp; rfl)); intro gf eg w2 hx hb; have HF := zM hx; have n0 := zM (below_step HB.out hb); have LF := zM (show w.heap.size ≤ gf by rw [eg]; exact HB.out.size); clear HB hx hb eg; have HB := n0; clear n0)
  | ((with_reducible refine gate_store (t := 116) (p := 7) (v := .tmp 21) rfl ?_); refine arr_store rfl rfl 116 (.tmp 7) (.tmp 21) rfl gf .u32 z16 fs rfl rfl 116 HF.out (by rw [HFL.out]; kernel_rfl) (by rw [HFL.out]; rfl) ?_; intro w4 hx hs; have n0 := zM (hs.below HB.out LF.out); clear HB HF; have HF := zM hx; have HB := n0; clear n0 hx hs)
  | ((with_reducible refine gate_dst (N := 22) rfl ?_); refine arr_load rfl 116 (.tmp 7) rfl gf 16 22 .u32 fs rfl 116 HF.out Tryd.underlying116 (by rw [HFL.out]; kernel_rfl) ?_)
  | ((with_reducible refine gate_dst (N := 8) rfl ?_); refine arr_new ?hg (N := 8) ?hd z16 .u32 116 ?hr ?_; (case hd => rfl); (case hg => rfl); (case hr => first | (go_simp; done) | (go_simp; rfl)); intro gx eg w5 hx hb; have n1 := zM (HF.out.below hb); have HX := zM hx; have n0 := zM (below_step HB.out hb); have LX := zM (show w.heap.size ≤ gx by rw [eg]; exact HB.out.size); have NFX := zM (show gf ≠ gx by rw [eg]; exact Nat.ne_of_lt HF.out.lt); clear HB HF hx hb eg; have HB := n0; have HF := n1; clear n0 n1)
  | ((with_reducible refine gate_store (t := 116) (p := 8) (v := .tmp 22) rfl ?_); refine arr_store rfl rfl 116 (.tmp 8) (.tmp 22) rfl gx .u32 z16 fs rfl rfl 116 HX.out (by rw [HFL.out]; kernel_rfl) (by rw [HFL.out]; rfl) ?_; intro w6 hx hs; have n0 := zM (hs.below HB.out LX.out); have n1 := zM (hs.arr HF.out NFX.out); clear HB HX HF; have HX := zM hx; have HB := n0; have HF := n1; clear n0 n1 hx hs))
 go_loopw [23] (fun i wr => ∃ j : Nat, j ≤ 10 ∧ i = .int .i64 j ∧ IsArr wr gf 116 .u32 fs ∧ IsArr wr gx 116 .u32 (rn fs j) ∧ Below w.heap.size w wr) (fun i _ => 10 - (intOf i).toNat)
 case atStart => exact ⟨0, by omega, rfl, HF.out, HX.out, HB.out⟩
 case round =>
  clear HF HX HB
  obtain ⟨j, hj, rfl, hF, hX, hB⟩ := hrel
  have HF := zM hF; have HB := zM hB; have HX := zM hX
  clear hF hB hX
  by_cases hlt : j < 10
  ·have q0 : decide ((j : Int) < 10) = true := decide_eq_true (by omega)
   obtain ⟨xs, hxs⟩ : ∃ xs, rn fs j = xs := ⟨_, rfl⟩
   have HXL := zM (show xs.length = 16 by rw [← hxs, rn_length]; exact HFL.out)
   have HN := zM (show rn fs (j + 1) = dgL (colL xs 4) 4 by rw [← hxs]; rfl)
   rw [hxs] at HX
   clear hxs
   go_wp2
   go_loopw [25] (fun i wr => ∃ k : Nat, k ≤ 4 ∧ i = .int .i64 k ∧ IsArr wr gf 116 .u32 fs ∧ IsArr wr gx 116 .u32 (colL xs k) ∧ Below w.heap.size w wr) (fun i _ => 4 - (intOf i).toNat)
   case atStart => exact ⟨0, by omega, rfl, HF.out, HX.out, HB.out⟩
   case round =>
    clear HF HX HB
    obtain ⟨k, hk, rfl, hF, hX, hB⟩ := hrel
    have HF := zM hF; have HB := zM hB; have HX := zM hX
    clear hF hB hX
    by_cases hk4 : k < 4
    ·have p0 : decide ((k : Int) < 4) = true := decide_eq_true (by omega)
     have p1 : (0 : Int) ≤ k := by omega
     have CQ := zM (fun (W : World) (hW : IsArr W gx 116 .u32 (colL xs k)) => quarter_calls gx k (4 + k) (8 + k) (12 + k) (by omega) (by omega) (by omega) (by omega) (colL xs k) (by rw [colL_length]; exact HXL.out) W hW)
     rw [show ((4 + k : Nat) : Int) = 4 + (k : Int) by omega, show ((8 + k : Nat) : Int) = 8 + (k : Int) by omega, show ((12 + k : Nat) : Int) = 12 + (k : Int) by omega] at CQ
     go_wp2_with (go_at_call 75; with_reducible refine (CQ.out _ HX.out).mono ?_; rintro e w7 ⟨rfl, hx, hs⟩; have n0 := zM (hs.below HB.out LX.out); have n1 := zM (hs.arr HF.out NFX.out); clear HB HX HF; have HX := zM hx; have HB := n0; have HF := n1; clear n0 n1 hx hs)
     go_roundw
     case rel => exact ⟨k + 1, by omega, by go_num, HF.out, HX.out, HB.out⟩
     case measure => simp [intOf]; omega
    ·have ek : k = 4 := by omega
     subst ek
     rw [show ((4 : Nat) : Int) = 4 from rfl]
     obtain ⟨ys, hys⟩ : ∃ ys, colL xs 4 = ys := ⟨_, rfl⟩
     have HYL := zM (show ys.length = 16 by rw [← hys, colL_length]; exact HXL.out)
     rw [hys] at HX HN
     clear hys
     go_wp2
     go_loopw [37] (fun i wr => ∃ k : Nat, k ≤ 4 ∧ i = .int .i64 k ∧ IsArr wr gf 116 .u32 fs ∧ IsArr wr gx 116 .u32 (dgL ys k) ∧ Below w.heap.size w wr) (fun i _ => 4 - (intOf i).toNat)
     case atStart => exact ⟨0, by omega, rfl, HF.out, HX.out, HB.out⟩
     case round =>
      clear HF HX HB
      obtain ⟨k, hk, rfl, hF, hX, hB⟩ := hrel
      have HF := zM hF; have HB := zM hB; have HX := zM hX
      clear hF hB hX
      by_cases hk4 : k < 4
      ·have p0 : decide ((k : Int) < 4) = true := decide_eq_true (by omega)
       have p1 : (0 : Int) ≤ k := by omega
       have m1 : Int.tmod ((k : Int) + 1) 4 = ((k : Int) + 1) % 4 := tm (by omega)
       have m2 : Int.tmod ((k : Int) + 2) 4 = ((k : Int) + 2) % 4 := tm (by omega)
       have m3 : Int.tmod ((k : Int) + 3) 4 = ((k : Int) + 3) % 4 := tm (by omega)
       have CQ := zM (fun (W : World) (hW : IsArr W gx 116 .u32 (dgL ys k)) => quarter_calls gx k (4 + (k + 1) % 4) (8 + (k + 2) % 4) (12 + (k + 3) % 4) (by omega) (by omega) (by omega) (by omega) (dgL ys k) (by rw [dgL_length]; exact HYL.out) W hW)
       rw [show ((4 + (k + 1) % 4 : Nat) : Int) = 4 + ((k : Int) + 1) % 4 by omega, show ((8 + (k + 2) % 4 : Nat) : Int) = 8 + ((k : Int) + 2) % 4 by omega, show ((12 + (k + 3) % 4 : Nat) : Int) = 12 + ((k : Int) + 3) % 4 by omega] at CQ
       go_wp2_with (go_at_call 75; with_reducible refine (CQ.out _ HX.out).mono ?_; rintro e w7 ⟨rfl, hx, hs⟩; have n0 := zM (hs.below HB.out LX.out); have n1 := zM (hs.arr HF.out NFX.out); clear HB HX HF; have HX := zM hx; have HB := n0; have HF := n1; clear n0 n1 hx hs)
       go_roundw
       case rel => exact ⟨k + 1, by omega, by go_num, HF.out, HX.out, HB.out⟩
       case measure => simp [intOf]; omega
      ·have ek : k = 4 := by omega
       subst ek
       rw [← HN.out] at HX
       rw [show ((4 : Nat) : Int) = 4 from rfl]
       go_wp2
       go_roundw
       case rel => exact ⟨j + 1, by omega, by go_num, HF.out, HX.out, HB.out⟩
       case measure => simp [intOf]; omega
  ·have ej : j = 10 := by omega
   subst ej
   rw [show ((10 : Nat) : Int) = 10 from rfl]
   obtain ⟨xs, hxs⟩ : ∃ xs, rn fs 10 = xs := ⟨_, rfl⟩
   have HXL := zM (show xs.length = 16 by rw [← hxs, rn_length]; exact HFL.out)
   have HE := zM (show blk key nonce n = strOfNums (outB xs fs 16) by rw [blk, blkL, HFS.out, hxs])
   rw [hxs] at HX
   clear hxs hj hlt
   obtain ⟨i0, hi, hzz⟩ := Option.map_eq_some_iff.1 info5
   simp only [Prod.mk.injEq] at hzz
   obtain ⟨hz0, hz1, hz2⟩ := hzz
   have HI := zM (And.intro hi (And.intro hz0 (And.intro hz1 hz2)))
   clear hi hz0 hz1 hz2
   go_wp2_with ((with_reducible refine gate_dst (N := 56) rfl ?_); refine arr_load rfl 116 (.tmp 8) rfl gx 16 22 .u32 xs rfl 116 HX.out Tryd.underlying116 (by rw [HXL.out]; kernel_rfl) ?_)
   rename World => w9
   have B2 := zM (Below.refl w9.heap.size w9)
   go_loopw [11, 57] (fun v i wx => ∃ k : Nat, k ≤ 16 ∧ i = .int .i64 k ∧ wx.ownsRow w9.heap.size 5 1 v (4 * k) (nums .u8 (outB xs fs k)) ∧ Below w9.heap.size w9 wx) (fun _ i _ => 16 - (intOf i).toNat)
   case atStart => exact ⟨0, by omega, rfl, World.ownsRow_nil _ _ _ _, B2.out⟩
   case round =>
    clear B2 HX
    obtain ⟨k, hk, rfl, ho, hB⟩ := hrel
    have B2 := zM hB; have HO := zM ho
    have HF2 := zM (HF.out.below hB)
    clear hB ho
    by_cases h16 : k < 16
    ·obtain ⟨x, hx⟩ : ∃ x, xs.getD k 0 = x := ⟨_, rfl⟩
     obtain ⟨f, hf⟩ : ∃ f, fs.getD k 0 = f := ⟨_, rfl⟩
     have hix := fun W => run_index_arr (P := Tryd.prog) 116 22 16 .u32 xs k Tryd.underlying116 (by kernel_rfl) Tryd.underlying22 h16 HXL.out W
     rw [hx] at hix
     have hcf : wr.cell? ⟨gf, k, none⟩ = some (.int .u32 f) := by rw [← hf]; exact HF2.out.cell k (by rw [HFL.out]; exact h16)
     have HX2 := zM (show outB xs fs (k + 1) = outB xs fs k ++ [(x + f) % 4294967296 % 256, (x + f) % 4294967296 / 256 % 256, (x + f) % 4294967296 / 65536 % 256, (x + f) % 4294967296 / 16777216 % 256] by rw [outB, hx, hf])
     clear hx hf
     have q1 : decide ((k : Int) < 16) = true := decide_eq_true (by omega)
     have q2 : (0 : Int) ≤ k := by omega
     have q3 : (k : Int) < 16 := by omega
     go_wp2_with ((with_reducible refine gate_builtin (b := .append) (xs := #[.tmp 66, .tmp 78]) rfl ?_); at_builtin; refine wpList_append_own _ rfl _ _ 34 rfl w9.heap.size 5 i0 (.int .u8 0) 1 1 Tryd.underlying34 HI.out.1 HI.out.2.1 HI.out.2.2.1 HI.out.2.2.2 rfl (by decide) _ _ _ rfl (HO.out.alloc _) ⟨wr.heap.size, 0, none⟩ 4 4 [.int .u8 ((x + f) % 256), .int .u8 ((x + f) % 4294967296 / 256 % 256), .int .u8 ((x + f) % 4294967296 / 65536 % 256), .int .u8 ((x + f) % 4294967296 / 16777216)] rfl rfl ?c1 ?c2 ?c3 ?c4 ?c5 ?_)
     case c1 => exact four_cells wr 5 _ _ _ _
     case c2 =>
      intro u hu
      simp only [List.mem_cons, List.not_mem_nil, or_false] at hu
      rcases hu with rfl | rfl | rfl | rfl <;> rfl
     case c3 => unfold maxLen; omega
     case c4 => omega
     case c5 => have := B2.out.size; simp; omega
     intro v' w1 hown' hgrow _
     have G1 := zM ((below_alloc B2.out _).grown hgrow (by have := B2.out.size; simp; omega) (fun b hb => (HO.out.lt b hb).1))
     have G2 := zM hown'
     clear hown' hgrow
     go_wp2
     go_roundw
     case rel =>
      refine ⟨k + 1, by omega, by go_num, ?_, G1.out⟩
      have g := G2.out
      rw [HX2.out, show (x + f) % 4294967296 % 256 = (x + f) % 256 by omega, show (x + f) % 4294967296 / 16777216 % 256 = (x + f) % 4294967296 / 16777216 by omega]
      simpa [nums, Nat.mul_add] using g
     case measure => simp [intOf]; omega
    ·have ek : k = 16 := by omega
     subst ek
     have hv := own_string (P := Tryd.prog) Tryd.underlying34 Tryd.underlying5 Tryd.underlying9 HO.out
     rw [← HE.out] at hv
     go_wp2
     go_ret
     exact ⟨rfl, below_step HB.out B2.out⟩
end Go.Proofs.YtgbhjkkfleeodaaDoor.Cha
namespace Go.Proofs.YtgbhjkkfleeodaaDoor.Cha
open Go.RowKit Go.Proofs.YtgbhjkkfleeodaaDoorW.PrintWords Go.Proofs.YtgbhjkkfleeodaaDoorW.PrintLast Go.Proofs.YtgbhjkkfleeodaaDoorW.PrintMore Go.Proofs.YtgbhjkkfleeodaaDoor.XA Go.Proofs.YtgbhjkkfleeodaaDoor.XU Go.Proofs.YtgbhjkkfleeodaaDoor.XB Go.Proofs.YtgbhjkkfleeodaaDoor.XM
open Go.Proofs.YtgbhjkkfleeodaaDoorW.PrintWords.Aside0 renaming mk → zM
open List renaming setIfInBounds_toArray → zT, set_cons_zero → zZ, set_cons_succ → zU
set_option linter.unusedVariables false
set_option linter.unusedSimpArgs false
theorem rl_eq_16 {n : Int} (h : U n) : rl n 16 = (n * 65536 % 4294967296 + n / 65536) % 4294967296 := by
 unfold rl
 have e : n * 2 ^ 16 % 4294967296 = n % 65536 * 2 ^ 16 := by simp only [Int.reducePow]; omega
 have e1 : n / 2 ^ (32 - 16) = n / 65536 := by simp only [Nat.reduceSub, Int.reducePow]
 rw [e, e1]
 unfold U at h
 have := (or_add (x := n / 65536) (y := n % 65536) 16 (by unfold U; omega) (by unfold U; simp only [Int.reducePow]; omega) (by omega) (by simp only [Int.reducePow]; omega)).2
 rw [this]
 all_goals try simp only [Int.reducePow]
 all_goals omega
theorem left_16 {n : Int} (h : U n) (w : World) : Calls Tryd.prog 83 #[.int .u32 n, .int .u64 16] w fun e w'' => e = .returned (.int .u32 (rl n 16)) ∧ ∃ m, w'' = w.drewN m := by
 rw [rl_eq_16 h]
 unfold U at h
 obtain ⟨h0, h1⟩ := h
 have ht : Int.tdiv n 65536 = n / 65536 := td h0
 go_enter Tryd.func83, Tryd.ntmps83
 go_wp2
 go_ret
 refine ⟨?_, 0, rfl⟩
 simp
 try omega
theorem rl_U_16 {n : Int} (h : U n) : U (rl n 16) := by rw [rl_eq_16 h]; exact U_mod _
theorem qx_U_16 {xs : List Int} (h : AU xs) (p q : Nat) : AU (qx xs p q 16) := h.set _ (rl_U_16 (U_bits (h.getD p) (h.getD q)).2.2)
theorem rl_eq_12 {n : Int} (h : U n) : rl n 12 = (n * 4096 % 4294967296 + n / 1048576) % 4294967296 := by
 unfold rl
 have e : n * 2 ^ 12 % 4294967296 = n % 1048576 * 2 ^ 12 := by simp only [Int.reducePow]; omega
 have e1 : n / 2 ^ (32 - 12) = n / 1048576 := by simp only [Nat.reduceSub, Int.reducePow]
 rw [e, e1]
 unfold U at h
 have := (or_add (x := n / 1048576) (y := n % 1048576) 12 (by unfold U; omega) (by unfold U; simp only [Int.reducePow]; omega) (by omega) (by simp only [Int.reducePow]; omega)).2
 rw [this]
 all_goals try simp only [Int.reducePow]
 all_goals omega
theorem left_12 {n : Int} (h : U n) (w : World) : Calls Tryd.prog 83 #[.int .u32 n, .int .u64 12] w fun e w'' => e = .returned (.int .u32 (rl n 12)) ∧ ∃ m, w'' = w.drewN m := by
 rw [rl_eq_12 h]
 unfold U at h
 obtain ⟨h0, h1⟩ := h
 have ht : Int.tdiv n 1048576 = n / 1048576 := td h0
 go_enter Tryd.func83, Tryd.ntmps83
 go_wp2
 go_ret
 refine ⟨?_, 0, rfl⟩
 simp
 try omega
theorem rl_U_12 {n : Int} (h : U n) : U (rl n 12) := by rw [rl_eq_12 h]; exact U_mod _
theorem qx_U_12 {xs : List Int} (h : AU xs) (p q : Nat) : AU (qx xs p q 12) := h.set _ (rl_U_12 (U_bits (h.getD p) (h.getD q)).2.2)
theorem rl_eq_8 {n : Int} (h : U n) : rl n 8 = (n * 256 % 4294967296 + n / 16777216) % 4294967296 := by
 unfold rl
 have e : n * 2 ^ 8 % 4294967296 = n % 16777216 * 2 ^ 8 := by simp only [Int.reducePow]; omega
 have e1 : n / 2 ^ (32 - 8) = n / 16777216 := by simp only [Nat.reduceSub, Int.reducePow]
 rw [e, e1]
 unfold U at h
 have := (or_add (x := n / 16777216) (y := n % 16777216) 8 (by unfold U; omega) (by unfold U; simp only [Int.reducePow]; omega) (by omega) (by simp only [Int.reducePow]; omega)).2
 rw [this]
 all_goals try simp only [Int.reducePow]
 all_goals omega
theorem left_8 {n : Int} (h : U n) (w : World) : Calls Tryd.prog 83 #[.int .u32 n, .int .u64 8] w fun e w'' => e = .returned (.int .u32 (rl n 8)) ∧ ∃ m, w'' = w.drewN m := by
 rw [rl_eq_8 h]
 unfold U at h
 obtain ⟨h0, h1⟩ := h
 have ht : Int.tdiv n 16777216 = n / 16777216 := td h0
 go_enter Tryd.func83, Tryd.ntmps83
 go_wp2
 go_ret
 refine ⟨?_, 0, rfl⟩
 simp
 try omega
theorem rl_U_8 {n : Int} (h : U n) : U (rl n 8) := by rw [rl_eq_8 h]; exact U_mod _
theorem qx_U_8 {xs : List Int} (h : AU xs) (p q : Nat) : AU (qx xs p q 8) := h.set _ (rl_U_8 (U_bits (h.getD p) (h.getD q)).2.2)
theorem rl_eq_7 {n : Int} (h : U n) : rl n 7 = (n * 128 % 4294967296 + n / 33554432) % 4294967296 := by
 unfold rl
 have e : n * 2 ^ 7 % 4294967296 = n % 33554432 * 2 ^ 7 := by simp only [Int.reducePow]; omega
 have e1 : n / 2 ^ (32 - 7) = n / 33554432 := by simp only [Nat.reduceSub, Int.reducePow]
 rw [e, e1]
 unfold U at h
 have := (or_add (x := n / 33554432) (y := n % 33554432) 7 (by unfold U; omega) (by unfold U; simp only [Int.reducePow]; omega) (by omega) (by simp only [Int.reducePow]; omega)).2
 rw [this]
 all_goals try simp only [Int.reducePow]
 all_goals omega
theorem left_7 {n : Int} (h : U n) (w : World) : Calls Tryd.prog 83 #[.int .u32 n, .int .u64 7] w fun e w'' => e = .returned (.int .u32 (rl n 7)) ∧ ∃ m, w'' = w.drewN m := by
 rw [rl_eq_7 h]
 unfold U at h
 obtain ⟨h0, h1⟩ := h
 have ht : Int.tdiv n 33554432 = n / 33554432 := td h0
 go_enter Tryd.func83, Tryd.ntmps83
 go_wp2
 go_ret
 refine ⟨?_, 0, rfl⟩
 simp
 try omega
theorem rl_U_7 {n : Int} (h : U n) : U (rl n 7) := by rw [rl_eq_7 h]; exact U_mod _
theorem qx_U_7 {xs : List Int} (h : AU xs) (p q : Nat) : AU (qx xs p q 7) := h.set _ (rl_U_7 (U_bits (h.getD p) (h.getD q)).2.2)
theorem qa_U {xs : List Int} (h : AU xs) (p q : Nat) : AU (qa xs p q) := h.set _ (U_mod _)
theorem q4_U {xs : List Int} (h : AU xs) (a b c d : Nat) : AU (q4 xs a b c d) := qx_U_7 (qa_U (qx_U_8 (qa_U (qx_U_12 (qa_U (qx_U_16 (qa_U h _ _) _ _) _ _) _ _) _ _) _ _) _ _) _ _
set_option maxHeartbeats 4000000 in
theorem refword_calls (s : ByteArray) (a : Int) (z0 : 0 ≤ a) (hs : a + 4 ≤ (s.size : Int)) (hz : (s.size : Int) ≤ 1000) (w : World) : Calls Tryd.prog 70 #[.string s, .int .i64 a] w fun e w' => e = .returned (.int .u32 (rw4 s a)) ∧ ∃ m, w' = w.drewN m := by
 have z0_ : 0 ≤ a := by omega
 have q0 : a < (s.size : Int) := by omega
 have h0 := bt_at s a
 have z0t := eq_true z0_
 have q0t := eq_true q0
 have z1_ : 0 ≤ (a + 1) := by omega
 have q1 : (a + 1) < (s.size : Int) := by omega
 have h1 := bt_at s (a + 1)
 have z1t := eq_true z1_
 have q1t := eq_true q1
 have z2_ : 0 ≤ (a + 2) := by omega
 have q2 : (a + 2) < (s.size : Int) := by omega
 have h2 := bt_at s (a + 2)
 have z2t := eq_true z2_
 have q2t := eq_true q2
 have z3_ : 0 ≤ (a + 3) := by omega
 have q3 : (a + 3) < (s.size : Int) := by omega
 have h3 := bt_at s (a + 3)
 have z3t := eq_true z3_
 have q3t := eq_true q3
 have r0 := bt_range s a
 have r1 := bt_range s (a + 1)
 have r2 := bt_range s (a + 2)
 have r3 := bt_range s (a + 3)
 have HR := zM (And.intro r0 (And.intro r1 (And.intro r2 r3)))
 have w1 : wrap64 (a + 1) = a + 1 := w64 (by omega) (by omega)
 have w2 : wrap64 (a + 2) = a + 2 := w64 (by omega) (by omega)
 have w3 : wrap64 (a + 3) = a + 3 := w64 (by omega) (by omega)
 clear r0 r1 r2 r3
 go_enter Tryd.func70, Tryd.ntmps70
 go_wp2
 go_quiet (fail)
 all_goals go_wp2
 all_goals go_ret
 have r0 := HR.out.1
 have r1 := HR.out.2.1
 have r2 := HR.out.2.2.1
 have r3 := HR.out.2.2.2
 refine ⟨congrArg (fun x => Ending.returned (Value.int .u32 x)) (show (((bt s a + bt s (a + 1) % 4294967296 * 256 + bt s (a + 2) % 4294967296 * 65536) % 4294967296 + bt s (a + 3) % 4294967296 * 16777216 % 4294967296) % 4294967296) = rw4 s a from ?_), nq, rfl⟩
 unfold rw4
 omega
def byL : List Int := [16, 12, 8, 7]
def qs (xs : List Int) (a b c d : Nat) : Nat → List Int
 | 0 => xs
 | 1 => qx (qa xs a b) d a 16
 | 2 => qx (qa (qx (qa xs a b) d a 16) c d) b c 12
 | 3 => qx (qa (qx (qa (qx (qa xs a b) d a 16) c d) b c 12) a b) d a 8
 | _ => q4 xs a b c d
theorem qs_length (xs : List Int) (a b c d k : Nat) : (qs xs a b c d k).length = xs.length := by
 rcases k with _ | _ | _ | _ | k <;> simp only [qs, q4, qa_length, qx_length]
theorem qs_U {xs : List Int} (h : AU xs) (a b c d k : Nat) : AU (qs xs a b c d k) := by
 rcases k with _ | _ | _ | _ | k
 ·exact h
 ·exact qx_U_16 (qa_U h _ _) _ _
 ·exact qx_U_12 (qa_U (qx_U_16 (qa_U h _ _) _ _) _ _) _ _
 ·exact qx_U_8 (qa_U (qx_U_12 (qa_U (qx_U_16 (qa_U h _ _) _ _) _ _) _ _) _ _) _ _
 ·exact q4_U h _ _ _ _
set_option maxHeartbeats 8000000 in
set_option maxRecDepth 100000 in
theorem refquarter_calls (a b c d : Nat) (ha : a < 16) (hb : b < 16) (hc : c < 16) (hd : d < 16) (xs : List Int) (hl : xs.length = 16) (hu : AU xs) (w : World) :
  Calls Tryd.prog 71 #[.agg (arrK .u32 xs), .int .i64 a, .int .i64 b, .int .i64 c, .int .i64 d] w fun e w' => e = .returned (.agg (arrK .u32 (q4 xs a b c d))) ∧ Below w.heap.size w w' := by
 have a0 : (0 : Int) ≤ a := by omega
 have a1 : (a : Int) < 16 := by omega
 have b0 : (0 : Int) ≤ b := by omega
 have b1 : (b : Int) < 16 := by omega
 have c0 : (0 : Int) ≤ c := by omega
 have c1 : (c : Int) < 16 := by omega
 have d0 : (0 : Int) ≤ d := by omega
 have d1 : (d : Int) < 16 := by omega
 have HB := zM (Below.refl w.heap.size w)
 have HL0 := zM hl
 have HU0 := zM hu
 clear hl hu
 go_enter Tryd.func71, Tryd.ntmps71
 go_wp2_with (first
  | ((with_reducible refine gate_dst (N := 5) rfl ?_); refine arr_new ?hg (N := 5) ?hd xs .u32 110 ?hr ?_; (case hd => rfl); (case hg => rfl); (case hr => first | (go_simp; done) | (go_simp; rfl)); intro g eg w1 hx hb; have HX := zM hx; have n0 := zM (below_step HB.out hb); have LX := zM (show w.heap.size ≤ g by rw [eg]; exact HB.out.size); clear HB hx hb eg; have HB := n0; clear n0)
  | ((with_reducible refine gate_dst (N := 10) rfl ?_); refine arr_new ?hg (N := 10) ?hd z16 .u32 110 ?hr ?_; (case hd => rfl); (case hg => rfl); (case hr => first | (go_simp; done) | (go_simp; rfl)); intro gr eg w2 hx hb; have n1 := zM (HX.out.below hb); have HR := zM hx; have n0 := zM (below_step HB.out hb); have LR := zM (show w.heap.size ≤ gr by rw [eg]; exact HB.out.size); have NXR := zM (show gr ≠ g by rw [eg]; exact Nat.ne_of_gt HX.out.lt); clear HB HX hx hb eg; have HB := n0; have HX := n1; clear n0 n1))
 have HY := zM (show IsArr (w2.alloc (.cells #[.int .u64 16, .int .u64 12, .int .u64 8, .int .u64 7] 38)) w2.heap.size 38 .u64 byL from blk_new w2 _)
 have b1 := Below.refl w2.heap.size w2
 have n1 := zM (HX.out.below (below_alloc b1 (.cells #[.int .u64 16, .int .u64 12, .int .u64 8, .int .u64 7] 38)))
 have n2 := zM (HR.out.below (below_alloc b1 (.cells #[.int .u64 16, .int .u64 12, .int .u64 8, .int .u64 7] 38)))
 have n3 := zM (below_alloc HB.out (.cells #[.int .u64 16, .int .u64 12, .int .u64 8, .int .u64 7] 38))
 have NXY := zM (show w2.heap.size ≠ g from Nat.ne_of_gt HX.out.lt)
 clear HX HR HB b1
 have HX := n1; have HR := n2; have HB := n3
 clear n1 n2 n3
 generalize w2.alloc (.cells #[.int .u64 16, .int .u64 12, .int .u64 8, .int .u64 7] 38) = w3 at HX HR HB HY ⊢
 obtain ⟨gy, hgy⟩ : ∃ g, w2.heap.size = g := ⟨_, rfl⟩
 rw [hgy] at HY NXY ⊢
 clear hgy
 go_loopw [12] (fun i wr => ∃ k : Nat, k ≤ 4 ∧ i = .int .i64 k ∧ IsArr wr g 110 .u32 (qs xs a b c d k) ∧ IsArr wr gr 110 .u32 z16 ∧ IsArr wr gy 38 .u64 byL ∧ Below w.heap.size w wr) (fun i _ => 4 - (intOf i).toNat)
 case atStart => exact ⟨0, by omega, rfl, HX.out, HR.out, HY.out, HB.out⟩
 case round =>
  clear HX HR HY HB
  obtain ⟨k, hk, rfl, hX, hR, hY, hB⟩ := hrel
  have HX := zM hX; have HR := zM hR; have HY := zM hY; have HB := zM hB
  clear hX hR hY hB
  obtain ⟨ys, hys⟩ : ∃ y, qs xs a b c d k = y := ⟨_, rfl⟩
  have HL := zM (show ys.length = 16 by rw [← hys, qs_length]; exact HL0.out)
  have HU := zM (show AU ys by rw [← hys]; exact qs_U HU0.out _ _ _ _ _)
  rw [hys] at HX
  have HE := zM hys
  clear hys
  by_cases hlt : k < 4
  ·have hkk : k = 0 ∨ k = 1 ∨ k = 2 ∨ k = 3 := by omega
   rcases hkk with rfl | rfl | rfl | rfl
   ·rw [show ((0 : Nat) : Int) = 0 from rfl]
    obtain ⟨vp, hvp⟩ : ∃ v, ys.getD a 0 = v := ⟨_, rfl⟩
    obtain ⟨vq, hvq⟩ : ∃ v, ys.getD b 0 = v := ⟨_, rfl⟩
    have hcp : wr.cell? ⟨g, a, none⟩ = some (.int .u32 vp) := by rw [← hvp]; exact HX.out.cell a (by rw [HL.out]; omega)
    have hcq : wr.cell? ⟨g, b, none⟩ = some (.int .u32 vq) := by rw [← hvq]; exact HX.out.cell b (by rw [HL.out]; omega)
    have hfp := HX.out.frozen a
    have HV := zM (And.intro hvp hvq)
    clear hvp hvq
    go_wp2
    go_region
    have n0 : IsArr (wr.setCell ⟨g, a, none⟩ (.int .u32 ((vp + vq) % 4294967296))).drew g 110 .u32 (qa ys a b) := by
     have h := IsArr.set HX.out a ((vp + vq) % 4294967296)
     rw [← HV.out.1, ← HV.out.2] at h ⊢
     exact h.drew
    have n1 : IsArr (wr.setCell ⟨g, a, none⟩ (.int .u32 ((vp + vq) % 4294967296))).drew gr 110 .u32 z16 := (HR.out.far NXR.out _).drew
    have n2 : IsArr (wr.setCell ⟨g, a, none⟩ (.int .u32 ((vp + vq) % 4294967296))).drew gy 38 .u64 byL := (HY.out.far NXY.out _).drew
    have n3 := below_drew1 (below_set (g := g) (j := a) (v := .int .u32 ((vp + vq) % 4294967296)) HB.out LX.out)
    generalize (wr.setCell ⟨g, a, none⟩ (.int .u32 ((vp + vq) % 4294967296))).drew = W0 at n0 n1 n2 n3 ⊢
    obtain ⟨y0, hy⟩ : ∃ y, qa ys a b = y := ⟨_, rfl⟩
    rw [hy] at n0
    have m1 := zM (show y0.length = 16 by rw [← hy, qa_length]; exact HL.out)
    have m2 := zM (show AU y0 by rw [← hy]; exact qa_U HU.out _ _)
    have HY0 := zM hy
    clear hcp hcq hfp HX HR HY HB HL HU HV hy
    have HX := zM n0
    have HR := zM n1
    have HY := zM n2
    have HB := zM n3
    have HL := m1
    have HU := m2
    clear n0 n1 n2 n3 m1 m2
    obtain ⟨vp, hvp⟩ : ∃ v, y0.getD d 0 = v := ⟨_, rfl⟩
    obtain ⟨vq, hvq⟩ : ∃ v, y0.getD a 0 = v := ⟨_, rfl⟩
    have hcp : W0.cell? ⟨g, d, none⟩ = some (.int .u32 vp) := by rw [← hvp]; exact HX.out.cell d (by rw [HL.out]; omega)
    have hcq : W0.cell? ⟨g, a, none⟩ = some (.int .u32 vq) := by rw [← hvq]; exact HX.out.cell a (by rw [HL.out]; omega)
    have hfp := HX.out.frozen d
    have HV := zM (And.intro hvp hvq)
    have hcy : W0.cell? ⟨gy, 0, none⟩ = some (.int .u64 16) := HY.out.cell 0 (by decide)
    have HUX := zM (show U (Go.bits .xor .u32 vp vq) by rw [← hvp, ← hvq]; exact (U_bits (HU.out.getD _) (HU.out.getD _)).2.2)
    clear hvp hvq
    go_wp2
    refine start_ (n := 15) (S := fun w' => w'.cell? ⟨g, d, none⟩ = some (.int .u32 vp) ∧ w'.cell? ⟨g, a, none⟩ = some (.int .u32 vq) ∧ w'.cell? ⟨gy, 0, none⟩ = some (.int .u64 16)) (ds := [14]) #[false, false, false, false, false, false, false, false, false, false, false, false, false, false, false] (by kernel_rfl) rfl rfl ⟨hcp, hcq, hcy⟩ (fun hHeld => ?_)
    refine pure_ (i := 0) (N := some 29) (v := ?_) (a' := ?_) #[true, false, false, false, false, false, false, false, false, false, false, false, false, false, false] rfl rfl (by kernel_rfl) (fun _ _ _ h => h) (Or.inl ⟨by rfl, ?_⟩) ?_ ?_
    rotate_left
    ·intro w'
     go_simp
     with_reducible rfl
    rotate_left
    ·simp only [Act.put, zT, zZ, zU, i64_w, i32_w]
     rfl
    refine pure_ (i := 1) (N := some 30) (v := ?_) (a' := ?_) #[true, true, false, false, false, false, false, false, false, false, false, false, false, false, false] rfl rfl (by kernel_rfl) (fun _ _ _ h => h) (Or.inl ⟨by rfl, ?_⟩) ?_ ?_
    rotate_left
    ·intro w'
     go_simp
     with_reducible rfl
    rotate_left
    ·simp only [Act.put, zT, zZ, zU, i64_w, i32_w]
     rfl
    refine pure_ (i := 2) (N := some 31) (v := ?_) (a' := ?_) #[true, true, true, false, false, false, false, false, false, false, false, false, false, false, false] rfl rfl (by kernel_rfl) (fun _ _ _ h => h) (Or.inl ⟨by rfl, ?_⟩) ?_ ?_
    rotate_left
    ·intro w'
     go_simp
     with_reducible rfl
    rotate_left
    ·simp only [Act.put, zT, zZ, zU, i64_w, i32_w]
     rfl
    refine pure_ (i := 4) (N := some 33) (v := ?_) (a' := ?_) #[true, true, true, false, true, false, false, false, false, false, false, false, false, false, false] rfl rfl (by kernel_rfl) (fun _ _ _ h => h) (Or.inl ⟨by rfl, ?_⟩) ?_ ?_
    rotate_left
    ·intro w'
     go_simp
     with_reducible rfl
    rotate_left
    ·simp only [Act.put, zT, zZ, zU, i64_w, i32_w]
     rfl
    refine pure_ (i := 5) (N := some 34) (v := ?_) (a' := ?_) #[true, true, true, false, true, true, false, false, false, false, false, false, false, false, false] rfl rfl (by kernel_rfl) (fun _ _ _ h => h) (Or.inl ⟨by rfl, ?_⟩) ?_ ?_
    rotate_left
    ·intro w'
     go_simp
     with_reducible rfl
    rotate_left
    ·simp only [Act.put, zT, zZ, zU, i64_w, i32_w]
     rfl
    refine pure_ (i := 8) (N := some 37) (v := ?_) (a' := ?_) #[true, true, true, false, true, true, false, false, true, false, false, false, false, false, false] rfl rfl (by kernel_rfl) (fun _ _ _ h => h) (Or.inl ⟨by rfl, ?_⟩) ?_ ?_
    rotate_left
    ·intro w'
     go_simp
     with_reducible rfl
    rotate_left
    ·simp only [Act.put, zT, zZ, zU, i64_w, i32_w]
     rfl
    refine pure_ (i := 9) (N := some 38) (v := ?_) (a' := ?_) #[true, true, true, false, true, true, false, false, true, true, false, false, false, false, false] rfl rfl (by kernel_rfl) (fun _ _ _ h => h) (Or.inl ⟨by rfl, ?_⟩) ?_ ?_
    rotate_left
    ·intro w'
     go_simp
     with_reducible rfl
    rotate_left
    ·simp only [Act.put, zT, zZ, zU, i64_w, i32_w]
     rfl
    refine pure_ (i := 10) (N := some 39) (v := ?_) (a' := ?_) #[true, true, true, false, true, true, false, false, true, true, true, false, false, false, false] rfl rfl (by kernel_rfl) (fun _ _ _ h => h) (Or.inl ⟨by rfl, ?_⟩) ?_ ?_
    rotate_left
    ·intro w'
     go_simp
     with_reducible rfl
    rotate_left
    ·simp only [Act.put, zT, zZ, zU, i64_w, i32_w]
     rfl
    refine take_ (i := 3) (N := some 32) (v := ?_) (a' := ?_) #[true, true, true, true, true, true, false, false, true, true, true, false, false, false, false] rfl rfl (by kernel_rfl) (fun _ _ _ h => h) (Or.inl ⟨by rfl, ?_⟩) hHeld ?_ ?_
    rotate_left
    ·rintro w' ⟨s0, s1, s2⟩
     go_simp
     with_reducible rfl
    rotate_left
    ·simp only [Act.put, zT, zZ, zU, i64_w, i32_w]
     rfl
    refine take_ (i := 6) (N := some 35) (v := ?_) (a' := ?_) #[true, true, true, true, true, true, true, false, true, true, true, false, false, false, false] rfl rfl (by kernel_rfl) (fun _ _ _ h => h) (Or.inl ⟨by rfl, ?_⟩) hHeld ?_ ?_
    rotate_left
    ·rintro w' ⟨s0, s1, s2⟩
     go_simp
     with_reducible rfl
    rotate_left
    ·simp only [Act.put, zT, zZ, zU, i64_w, i32_w]
     rfl
    refine pure_ (i := 7) (N := some 36) (v := ?_) (a' := ?_) #[true, true, true, true, true, true, true, true, true, true, true, false, false, false, false] rfl rfl (by kernel_rfl) (fun _ _ _ h => h) (Or.inl ⟨by rfl, ?_⟩) ?_ ?_
    rotate_left
    ·intro w'
     go_simp
     with_reducible rfl
    rotate_left
    ·simp only [Act.put, zT, zZ, zU, i64_w, i32_w]
     rfl
    refine take_ (i := 11) (N := some 40) (v := ?_) (a' := ?_) #[true, true, true, true, true, true, true, true, true, true, true, true, false, false, false] rfl rfl (by kernel_rfl) (fun _ _ _ h => h) (Or.inl ⟨by rfl, ?_⟩) hHeld ?_ ?_
    rotate_left
    ·rintro w' ⟨s0, s1, s2⟩
     go_simp
     with_reducible rfl
    rotate_left
    ·simp only [Act.put, zT, zZ, zU, i64_w, i32_w]
     rfl
    refine one_ (i := 12) (N := some 41) #[true, true, true, true, true, true, true, true, true, true, true, true, true, false, false] rfl rfl (by kernel_rfl) (by decide) (fun K hK => ?_)
    refine goes_ Tryd.func83 (by kernel_rfl) rfl #[.int .u32 (Go.bits .xor .u32 vp vq), .int .u64 16] (by rfl) rfl rfl (by simp only [List.map_toArray, List.map_cons, List.map_nil]; rfl) ?_
    with_reducible refine (left_16 HUX.out _).mono ?_
    rintro e w1 ⟨rfl, m, rfl⟩
    refine ⟨_, rfl, ?_⟩
    refine hK.out _ _ ⟨hHeld.1, hHeld.2.1, hHeld.2.2⟩ (fun hHeld => ?_)
    clear hK K
    refine norm_ (a' := ?_) ?_ ?_
    rotate_left
    ·show Act.put _ (some 41) _ = _
     simp only [Act.put, zT, zZ, zU, i64_w, i32_w]
     rfl
    refine pure_ (i := 13) (N := some 42) (v := ?_) (a' := ?_) #[true, true, true, true, true, true, true, true, true, true, true, true, true, true, false] rfl rfl (by kernel_rfl) (fun _ _ _ h => h) (Or.inl ⟨by rfl, ?_⟩) ?_ ?_
    rotate_left
    ·intro w'
     go_simp
     with_reducible rfl
    rotate_left
    ·simp only [Act.put, zT, zZ, zU, i64_w, i32_w]
     rfl
    refine last_ (i := 14) (N := none) #[true, true, true, true, true, true, true, true, true, true, true, true, true, true, true] rfl rfl (by kernel_rfl) (by decide) (fun K hK => ?_)
    refine skip_ (w1 := ?_) (by rfl) rfl ?_ ?_
    rotate_left
    ·go_simp
     rfl
    refine hK.out _ _ ?_
    clear hK K
    refine done_ (by kernel_rfl) ?_
    have n0 : IsArr ((W0.drewN (1 + m)).setCell ⟨g, d, none⟩ (.int .u32 (rl (Go.bits .xor .u32 vp vq) 16))) g 110 .u32 (qx y0 d a 16) := by
     have h := IsArr.set (HX.out.drewN (1 + m)) d (rl (Go.bits .xor .u32 vp vq) 16)
     rw [← HV.out.1, ← HV.out.2] at h ⊢
     exact h
    have n1 : IsArr ((W0.drewN (1 + m)).setCell ⟨g, d, none⟩ (.int .u32 (rl (Go.bits .xor .u32 vp vq) 16))) gr 110 .u32 z16 := (HR.out.drewN (1 + m)).far NXR.out _
    have n2 : IsArr ((W0.drewN (1 + m)).setCell ⟨g, d, none⟩ (.int .u32 (rl (Go.bits .xor .u32 vp vq) 16))) gy 38 .u64 byL := (HY.out.drewN (1 + m)).far NXY.out _
    have n3 := below_set (g := g) (j := d) (v := .int .u32 (rl (Go.bits .xor .u32 vp vq) 16)) (pw_below_drewN HB.out (1 + m)) LX.out
    generalize ((W0.drewN (1 + m)).setCell ⟨g, d, none⟩ (.int .u32 (rl (Go.bits .xor .u32 vp vq) 16))) = W1 at n0 n1 n2 n3 ⊢
    have HQ := zM (show qs xs a b c d (0 + 1) = qx y0 d a 16 by rw [← HY0.out, ← HE.out]; rfl)
    clear hcp hcq hfp hcy HX HR HY HB HL HU HV
    go_wp2
    go_roundw
    case rel => exact ⟨0 + 1, by omega, by go_num, by rw [HQ.out]; exact n0, n1, n2, n3⟩
    case measure => simp [intOf] <;> omega
   ·rw [show ((1 : Nat) : Int) = 1 from rfl]
    obtain ⟨vp, hvp⟩ : ∃ v, ys.getD c 0 = v := ⟨_, rfl⟩
    obtain ⟨vq, hvq⟩ : ∃ v, ys.getD d 0 = v := ⟨_, rfl⟩
    have hcp : wr.cell? ⟨g, c, none⟩ = some (.int .u32 vp) := by rw [← hvp]; exact HX.out.cell c (by rw [HL.out]; omega)
    have hcq : wr.cell? ⟨g, d, none⟩ = some (.int .u32 vq) := by rw [← hvq]; exact HX.out.cell d (by rw [HL.out]; omega)
    have hfp := HX.out.frozen c
    have HV := zM (And.intro hvp hvq)
    clear hvp hvq
    go_wp2
    go_region
    have n0 : IsArr (wr.setCell ⟨g, c, none⟩ (.int .u32 ((vp + vq) % 4294967296))).drew g 110 .u32 (qa ys c d) := by
     have h := IsArr.set HX.out c ((vp + vq) % 4294967296)
     rw [← HV.out.1, ← HV.out.2] at h ⊢
     exact h.drew
    have n1 : IsArr (wr.setCell ⟨g, c, none⟩ (.int .u32 ((vp + vq) % 4294967296))).drew gr 110 .u32 z16 := (HR.out.far NXR.out _).drew
    have n2 : IsArr (wr.setCell ⟨g, c, none⟩ (.int .u32 ((vp + vq) % 4294967296))).drew gy 38 .u64 byL := (HY.out.far NXY.out _).drew
    have n3 := below_drew1 (below_set (g := g) (j := c) (v := .int .u32 ((vp + vq) % 4294967296)) HB.out LX.out)
    generalize (wr.setCell ⟨g, c, none⟩ (.int .u32 ((vp + vq) % 4294967296))).drew = W0 at n0 n1 n2 n3 ⊢
    obtain ⟨y0, hy⟩ : ∃ y, qa ys c d = y := ⟨_, rfl⟩
    rw [hy] at n0
    have m1 := zM (show y0.length = 16 by rw [← hy, qa_length]; exact HL.out)
    have m2 := zM (show AU y0 by rw [← hy]; exact qa_U HU.out _ _)
    have HY0 := zM hy
    clear hcp hcq hfp HX HR HY HB HL HU HV hy
    have HX := zM n0
    have HR := zM n1
    have HY := zM n2
    have HB := zM n3
    have HL := m1
    have HU := m2
    clear n0 n1 n2 n3 m1 m2
    obtain ⟨vp, hvp⟩ : ∃ v, y0.getD b 0 = v := ⟨_, rfl⟩
    obtain ⟨vq, hvq⟩ : ∃ v, y0.getD c 0 = v := ⟨_, rfl⟩
    have hcp : W0.cell? ⟨g, b, none⟩ = some (.int .u32 vp) := by rw [← hvp]; exact HX.out.cell b (by rw [HL.out]; omega)
    have hcq : W0.cell? ⟨g, c, none⟩ = some (.int .u32 vq) := by rw [← hvq]; exact HX.out.cell c (by rw [HL.out]; omega)
    have hfp := HX.out.frozen b
    have HV := zM (And.intro hvp hvq)
    have hcy : W0.cell? ⟨gy, 1, none⟩ = some (.int .u64 12) := HY.out.cell 1 (by decide)
    have HUX := zM (show U (Go.bits .xor .u32 vp vq) by rw [← hvp, ← hvq]; exact (U_bits (HU.out.getD _) (HU.out.getD _)).2.2)
    clear hvp hvq
    go_wp2
    refine start_ (n := 15) (S := fun w' => w'.cell? ⟨g, b, none⟩ = some (.int .u32 vp) ∧ w'.cell? ⟨g, c, none⟩ = some (.int .u32 vq) ∧ w'.cell? ⟨gy, 1, none⟩ = some (.int .u64 12)) (ds := [14]) #[false, false, false, false, false, false, false, false, false, false, false, false, false, false, false] (by kernel_rfl) rfl rfl ⟨hcp, hcq, hcy⟩ (fun hHeld => ?_)
    refine pure_ (i := 0) (N := some 51) (v := ?_) (a' := ?_) #[true, false, false, false, false, false, false, false, false, false, false, false, false, false, false] rfl rfl (by kernel_rfl) (fun _ _ _ h => h) (Or.inl ⟨by rfl, ?_⟩) ?_ ?_
    rotate_left
    ·intro w'
     go_simp
     with_reducible rfl
    rotate_left
    ·simp only [Act.put, zT, zZ, zU, i64_w, i32_w]
     rfl
    refine pure_ (i := 1) (N := some 52) (v := ?_) (a' := ?_) #[true, true, false, false, false, false, false, false, false, false, false, false, false, false, false] rfl rfl (by kernel_rfl) (fun _ _ _ h => h) (Or.inl ⟨by rfl, ?_⟩) ?_ ?_
    rotate_left
    ·intro w'
     go_simp
     with_reducible rfl
    rotate_left
    ·simp only [Act.put, zT, zZ, zU, i64_w, i32_w]
     rfl
    refine pure_ (i := 2) (N := some 53) (v := ?_) (a' := ?_) #[true, true, true, false, false, false, false, false, false, false, false, false, false, false, false] rfl rfl (by kernel_rfl) (fun _ _ _ h => h) (Or.inl ⟨by rfl, ?_⟩) ?_ ?_
    rotate_left
    ·intro w'
     go_simp
     with_reducible rfl
    rotate_left
    ·simp only [Act.put, zT, zZ, zU, i64_w, i32_w]
     rfl
    refine pure_ (i := 4) (N := some 55) (v := ?_) (a' := ?_) #[true, true, true, false, true, false, false, false, false, false, false, false, false, false, false] rfl rfl (by kernel_rfl) (fun _ _ _ h => h) (Or.inl ⟨by rfl, ?_⟩) ?_ ?_
    rotate_left
    ·intro w'
     go_simp
     with_reducible rfl
    rotate_left
    ·simp only [Act.put, zT, zZ, zU, i64_w, i32_w]
     rfl
    refine pure_ (i := 5) (N := some 56) (v := ?_) (a' := ?_) #[true, true, true, false, true, true, false, false, false, false, false, false, false, false, false] rfl rfl (by kernel_rfl) (fun _ _ _ h => h) (Or.inl ⟨by rfl, ?_⟩) ?_ ?_
    rotate_left
    ·intro w'
     go_simp
     with_reducible rfl
    rotate_left
    ·simp only [Act.put, zT, zZ, zU, i64_w, i32_w]
     rfl
    refine pure_ (i := 8) (N := some 59) (v := ?_) (a' := ?_) #[true, true, true, false, true, true, false, false, true, false, false, false, false, false, false] rfl rfl (by kernel_rfl) (fun _ _ _ h => h) (Or.inl ⟨by rfl, ?_⟩) ?_ ?_
    rotate_left
    ·intro w'
     go_simp
     with_reducible rfl
    rotate_left
    ·simp only [Act.put, zT, zZ, zU, i64_w, i32_w]
     rfl
    refine pure_ (i := 9) (N := some 60) (v := ?_) (a' := ?_) #[true, true, true, false, true, true, false, false, true, true, false, false, false, false, false] rfl rfl (by kernel_rfl) (fun _ _ _ h => h) (Or.inl ⟨by rfl, ?_⟩) ?_ ?_
    rotate_left
    ·intro w'
     go_simp
     with_reducible rfl
    rotate_left
    ·simp only [Act.put, zT, zZ, zU, i64_w, i32_w]
     rfl
    refine pure_ (i := 10) (N := some 61) (v := ?_) (a' := ?_) #[true, true, true, false, true, true, false, false, true, true, true, false, false, false, false] rfl rfl (by kernel_rfl) (fun _ _ _ h => h) (Or.inl ⟨by rfl, ?_⟩) ?_ ?_
    rotate_left
    ·intro w'
     go_simp
     with_reducible rfl
    rotate_left
    ·simp only [Act.put, zT, zZ, zU, i64_w, i32_w]
     rfl
    refine take_ (i := 3) (N := some 54) (v := ?_) (a' := ?_) #[true, true, true, true, true, true, false, false, true, true, true, false, false, false, false] rfl rfl (by kernel_rfl) (fun _ _ _ h => h) (Or.inl ⟨by rfl, ?_⟩) hHeld ?_ ?_
    rotate_left
    ·rintro w' ⟨s0, s1, s2⟩
     go_simp
     with_reducible rfl
    rotate_left
    ·simp only [Act.put, zT, zZ, zU, i64_w, i32_w]
     rfl
    refine take_ (i := 6) (N := some 57) (v := ?_) (a' := ?_) #[true, true, true, true, true, true, true, false, true, true, true, false, false, false, false] rfl rfl (by kernel_rfl) (fun _ _ _ h => h) (Or.inl ⟨by rfl, ?_⟩) hHeld ?_ ?_
    rotate_left
    ·rintro w' ⟨s0, s1, s2⟩
     go_simp
     with_reducible rfl
    rotate_left
    ·simp only [Act.put, zT, zZ, zU, i64_w, i32_w]
     rfl
    refine pure_ (i := 7) (N := some 58) (v := ?_) (a' := ?_) #[true, true, true, true, true, true, true, true, true, true, true, false, false, false, false] rfl rfl (by kernel_rfl) (fun _ _ _ h => h) (Or.inl ⟨by rfl, ?_⟩) ?_ ?_
    rotate_left
    ·intro w'
     go_simp
     with_reducible rfl
    rotate_left
    ·simp only [Act.put, zT, zZ, zU, i64_w, i32_w]
     rfl
    refine take_ (i := 11) (N := some 62) (v := ?_) (a' := ?_) #[true, true, true, true, true, true, true, true, true, true, true, true, false, false, false] rfl rfl (by kernel_rfl) (fun _ _ _ h => h) (Or.inl ⟨by rfl, ?_⟩) hHeld ?_ ?_
    rotate_left
    ·rintro w' ⟨s0, s1, s2⟩
     go_simp
     with_reducible rfl
    rotate_left
    ·simp only [Act.put, zT, zZ, zU, i64_w, i32_w]
     rfl
    refine one_ (i := 12) (N := some 63) #[true, true, true, true, true, true, true, true, true, true, true, true, true, false, false] rfl rfl (by kernel_rfl) (by decide) (fun K hK => ?_)
    refine goes_ Tryd.func83 (by kernel_rfl) rfl #[.int .u32 (Go.bits .xor .u32 vp vq), .int .u64 12] (by rfl) rfl rfl (by simp only [List.map_toArray, List.map_cons, List.map_nil]; rfl) ?_
    with_reducible refine (left_12 HUX.out _).mono ?_
    rintro e w1 ⟨rfl, m, rfl⟩
    refine ⟨_, rfl, ?_⟩
    refine hK.out _ _ ⟨hHeld.1, hHeld.2.1, hHeld.2.2⟩ (fun hHeld => ?_)
    clear hK K
    refine norm_ (a' := ?_) ?_ ?_
    rotate_left
    ·show Act.put _ (some 63) _ = _
     simp only [Act.put, zT, zZ, zU, i64_w, i32_w]
     rfl
    refine pure_ (i := 13) (N := some 64) (v := ?_) (a' := ?_) #[true, true, true, true, true, true, true, true, true, true, true, true, true, true, false] rfl rfl (by kernel_rfl) (fun _ _ _ h => h) (Or.inl ⟨by rfl, ?_⟩) ?_ ?_
    rotate_left
    ·intro w'
     go_simp
     with_reducible rfl
    rotate_left
    ·simp only [Act.put, zT, zZ, zU, i64_w, i32_w]
     rfl
    refine last_ (i := 14) (N := none) #[true, true, true, true, true, true, true, true, true, true, true, true, true, true, true] rfl rfl (by kernel_rfl) (by decide) (fun K hK => ?_)
    refine skip_ (w1 := ?_) (by rfl) rfl ?_ ?_
    rotate_left
    ·go_simp
     rfl
    refine hK.out _ _ ?_
    clear hK K
    refine done_ (by kernel_rfl) ?_
    have n0 : IsArr ((W0.drewN (1 + m)).setCell ⟨g, b, none⟩ (.int .u32 (rl (Go.bits .xor .u32 vp vq) 12))) g 110 .u32 (qx y0 b c 12) := by
     have h := IsArr.set (HX.out.drewN (1 + m)) b (rl (Go.bits .xor .u32 vp vq) 12)
     rw [← HV.out.1, ← HV.out.2] at h ⊢
     exact h
    have n1 : IsArr ((W0.drewN (1 + m)).setCell ⟨g, b, none⟩ (.int .u32 (rl (Go.bits .xor .u32 vp vq) 12))) gr 110 .u32 z16 := (HR.out.drewN (1 + m)).far NXR.out _
    have n2 : IsArr ((W0.drewN (1 + m)).setCell ⟨g, b, none⟩ (.int .u32 (rl (Go.bits .xor .u32 vp vq) 12))) gy 38 .u64 byL := (HY.out.drewN (1 + m)).far NXY.out _
    have n3 := below_set (g := g) (j := b) (v := .int .u32 (rl (Go.bits .xor .u32 vp vq) 12)) (pw_below_drewN HB.out (1 + m)) LX.out
    generalize ((W0.drewN (1 + m)).setCell ⟨g, b, none⟩ (.int .u32 (rl (Go.bits .xor .u32 vp vq) 12))) = W1 at n0 n1 n2 n3 ⊢
    have HQ := zM (show qs xs a b c d (1 + 1) = qx y0 b c 12 by rw [← HY0.out, ← HE.out]; rfl)
    clear hcp hcq hfp hcy HX HR HY HB HL HU HV
    go_wp2
    go_roundw
    case rel => exact ⟨1 + 1, by omega, by go_num, by rw [HQ.out]; exact n0, n1, n2, n3⟩
    case measure => simp [intOf] <;> omega
   ·rw [show ((2 : Nat) : Int) = 2 from rfl]
    obtain ⟨vp, hvp⟩ : ∃ v, ys.getD a 0 = v := ⟨_, rfl⟩
    obtain ⟨vq, hvq⟩ : ∃ v, ys.getD b 0 = v := ⟨_, rfl⟩
    have hcp : wr.cell? ⟨g, a, none⟩ = some (.int .u32 vp) := by rw [← hvp]; exact HX.out.cell a (by rw [HL.out]; omega)
    have hcq : wr.cell? ⟨g, b, none⟩ = some (.int .u32 vq) := by rw [← hvq]; exact HX.out.cell b (by rw [HL.out]; omega)
    have hfp := HX.out.frozen a
    have HV := zM (And.intro hvp hvq)
    clear hvp hvq
    go_wp2
    go_region
    have n0 : IsArr (wr.setCell ⟨g, a, none⟩ (.int .u32 ((vp + vq) % 4294967296))).drew g 110 .u32 (qa ys a b) := by
     have h := IsArr.set HX.out a ((vp + vq) % 4294967296)
     rw [← HV.out.1, ← HV.out.2] at h ⊢
     exact h.drew
    have n1 : IsArr (wr.setCell ⟨g, a, none⟩ (.int .u32 ((vp + vq) % 4294967296))).drew gr 110 .u32 z16 := (HR.out.far NXR.out _).drew
    have n2 : IsArr (wr.setCell ⟨g, a, none⟩ (.int .u32 ((vp + vq) % 4294967296))).drew gy 38 .u64 byL := (HY.out.far NXY.out _).drew
    have n3 := below_drew1 (below_set (g := g) (j := a) (v := .int .u32 ((vp + vq) % 4294967296)) HB.out LX.out)
    generalize (wr.setCell ⟨g, a, none⟩ (.int .u32 ((vp + vq) % 4294967296))).drew = W0 at n0 n1 n2 n3 ⊢
    obtain ⟨y0, hy⟩ : ∃ y, qa ys a b = y := ⟨_, rfl⟩
    rw [hy] at n0
    have m1 := zM (show y0.length = 16 by rw [← hy, qa_length]; exact HL.out)
    have m2 := zM (show AU y0 by rw [← hy]; exact qa_U HU.out _ _)
    have HY0 := zM hy
    clear hcp hcq hfp HX HR HY HB HL HU HV hy
    have HX := zM n0
    have HR := zM n1
    have HY := zM n2
    have HB := zM n3
    have HL := m1
    have HU := m2
    clear n0 n1 n2 n3 m1 m2
    obtain ⟨vp, hvp⟩ : ∃ v, y0.getD d 0 = v := ⟨_, rfl⟩
    obtain ⟨vq, hvq⟩ : ∃ v, y0.getD a 0 = v := ⟨_, rfl⟩
    have hcp : W0.cell? ⟨g, d, none⟩ = some (.int .u32 vp) := by rw [← hvp]; exact HX.out.cell d (by rw [HL.out]; omega)
    have hcq : W0.cell? ⟨g, a, none⟩ = some (.int .u32 vq) := by rw [← hvq]; exact HX.out.cell a (by rw [HL.out]; omega)
    have hfp := HX.out.frozen d
    have HV := zM (And.intro hvp hvq)
    have hcy : W0.cell? ⟨gy, 2, none⟩ = some (.int .u64 8) := HY.out.cell 2 (by decide)
    have HUX := zM (show U (Go.bits .xor .u32 vp vq) by rw [← hvp, ← hvq]; exact (U_bits (HU.out.getD _) (HU.out.getD _)).2.2)
    clear hvp hvq
    go_wp2
    refine start_ (n := 15) (S := fun w' => w'.cell? ⟨g, d, none⟩ = some (.int .u32 vp) ∧ w'.cell? ⟨g, a, none⟩ = some (.int .u32 vq) ∧ w'.cell? ⟨gy, 2, none⟩ = some (.int .u64 8)) (ds := [14]) #[false, false, false, false, false, false, false, false, false, false, false, false, false, false, false] (by kernel_rfl) rfl rfl ⟨hcp, hcq, hcy⟩ (fun hHeld => ?_)
    refine pure_ (i := 0) (N := some 29) (v := ?_) (a' := ?_) #[true, false, false, false, false, false, false, false, false, false, false, false, false, false, false] rfl rfl (by kernel_rfl) (fun _ _ _ h => h) (Or.inl ⟨by rfl, ?_⟩) ?_ ?_
    rotate_left
    ·intro w'
     go_simp
     with_reducible rfl
    rotate_left
    ·simp only [Act.put, zT, zZ, zU, i64_w, i32_w]
     rfl
    refine pure_ (i := 1) (N := some 30) (v := ?_) (a' := ?_) #[true, true, false, false, false, false, false, false, false, false, false, false, false, false, false] rfl rfl (by kernel_rfl) (fun _ _ _ h => h) (Or.inl ⟨by rfl, ?_⟩) ?_ ?_
    rotate_left
    ·intro w'
     go_simp
     with_reducible rfl
    rotate_left
    ·simp only [Act.put, zT, zZ, zU, i64_w, i32_w]
     rfl
    refine pure_ (i := 2) (N := some 31) (v := ?_) (a' := ?_) #[true, true, true, false, false, false, false, false, false, false, false, false, false, false, false] rfl rfl (by kernel_rfl) (fun _ _ _ h => h) (Or.inl ⟨by rfl, ?_⟩) ?_ ?_
    rotate_left
    ·intro w'
     go_simp
     with_reducible rfl
    rotate_left
    ·simp only [Act.put, zT, zZ, zU, i64_w, i32_w]
     rfl
    refine pure_ (i := 4) (N := some 33) (v := ?_) (a' := ?_) #[true, true, true, false, true, false, false, false, false, false, false, false, false, false, false] rfl rfl (by kernel_rfl) (fun _ _ _ h => h) (Or.inl ⟨by rfl, ?_⟩) ?_ ?_
    rotate_left
    ·intro w'
     go_simp
     with_reducible rfl
    rotate_left
    ·simp only [Act.put, zT, zZ, zU, i64_w, i32_w]
     rfl
    refine pure_ (i := 5) (N := some 34) (v := ?_) (a' := ?_) #[true, true, true, false, true, true, false, false, false, false, false, false, false, false, false] rfl rfl (by kernel_rfl) (fun _ _ _ h => h) (Or.inl ⟨by rfl, ?_⟩) ?_ ?_
    rotate_left
    ·intro w'
     go_simp
     with_reducible rfl
    rotate_left
    ·simp only [Act.put, zT, zZ, zU, i64_w, i32_w]
     rfl
    refine pure_ (i := 8) (N := some 37) (v := ?_) (a' := ?_) #[true, true, true, false, true, true, false, false, true, false, false, false, false, false, false] rfl rfl (by kernel_rfl) (fun _ _ _ h => h) (Or.inl ⟨by rfl, ?_⟩) ?_ ?_
    rotate_left
    ·intro w'
     go_simp
     with_reducible rfl
    rotate_left
    ·simp only [Act.put, zT, zZ, zU, i64_w, i32_w]
     rfl
    refine pure_ (i := 9) (N := some 38) (v := ?_) (a' := ?_) #[true, true, true, false, true, true, false, false, true, true, false, false, false, false, false] rfl rfl (by kernel_rfl) (fun _ _ _ h => h) (Or.inl ⟨by rfl, ?_⟩) ?_ ?_
    rotate_left
    ·intro w'
     go_simp
     with_reducible rfl
    rotate_left
    ·simp only [Act.put, zT, zZ, zU, i64_w, i32_w]
     rfl
    refine pure_ (i := 10) (N := some 39) (v := ?_) (a' := ?_) #[true, true, true, false, true, true, false, false, true, true, true, false, false, false, false] rfl rfl (by kernel_rfl) (fun _ _ _ h => h) (Or.inl ⟨by rfl, ?_⟩) ?_ ?_
    rotate_left
    ·intro w'
     go_simp
     with_reducible rfl
    rotate_left
    ·simp only [Act.put, zT, zZ, zU, i64_w, i32_w]
     rfl
    refine take_ (i := 3) (N := some 32) (v := ?_) (a' := ?_) #[true, true, true, true, true, true, false, false, true, true, true, false, false, false, false] rfl rfl (by kernel_rfl) (fun _ _ _ h => h) (Or.inl ⟨by rfl, ?_⟩) hHeld ?_ ?_
    rotate_left
    ·rintro w' ⟨s0, s1, s2⟩
     go_simp
     with_reducible rfl
    rotate_left
    ·simp only [Act.put, zT, zZ, zU, i64_w, i32_w]
     rfl
    refine take_ (i := 6) (N := some 35) (v := ?_) (a' := ?_) #[true, true, true, true, true, true, true, false, true, true, true, false, false, false, false] rfl rfl (by kernel_rfl) (fun _ _ _ h => h) (Or.inl ⟨by rfl, ?_⟩) hHeld ?_ ?_
    rotate_left
    ·rintro w' ⟨s0, s1, s2⟩
     go_simp
     with_reducible rfl
    rotate_left
    ·simp only [Act.put, zT, zZ, zU, i64_w, i32_w]
     rfl
    refine pure_ (i := 7) (N := some 36) (v := ?_) (a' := ?_) #[true, true, true, true, true, true, true, true, true, true, true, false, false, false, false] rfl rfl (by kernel_rfl) (fun _ _ _ h => h) (Or.inl ⟨by rfl, ?_⟩) ?_ ?_
    rotate_left
    ·intro w'
     go_simp
     with_reducible rfl
    rotate_left
    ·simp only [Act.put, zT, zZ, zU, i64_w, i32_w]
     rfl
    refine take_ (i := 11) (N := some 40) (v := ?_) (a' := ?_) #[true, true, true, true, true, true, true, true, true, true, true, true, false, false, false] rfl rfl (by kernel_rfl) (fun _ _ _ h => h) (Or.inl ⟨by rfl, ?_⟩) hHeld ?_ ?_
    rotate_left
    ·rintro w' ⟨s0, s1, s2⟩
     go_simp
     with_reducible rfl
    rotate_left
    ·simp only [Act.put, zT, zZ, zU, i64_w, i32_w]
     rfl
    refine one_ (i := 12) (N := some 41) #[true, true, true, true, true, true, true, true, true, true, true, true, true, false, false] rfl rfl (by kernel_rfl) (by decide) (fun K hK => ?_)
    refine goes_ Tryd.func83 (by kernel_rfl) rfl #[.int .u32 (Go.bits .xor .u32 vp vq), .int .u64 8] (by rfl) rfl rfl (by simp only [List.map_toArray, List.map_cons, List.map_nil]; rfl) ?_
    with_reducible refine (left_8 HUX.out _).mono ?_
    rintro e w1 ⟨rfl, m, rfl⟩
    refine ⟨_, rfl, ?_⟩
    refine hK.out _ _ ⟨hHeld.1, hHeld.2.1, hHeld.2.2⟩ (fun hHeld => ?_)
    clear hK K
    refine norm_ (a' := ?_) ?_ ?_
    rotate_left
    ·show Act.put _ (some 41) _ = _
     simp only [Act.put, zT, zZ, zU, i64_w, i32_w]
     rfl
    refine pure_ (i := 13) (N := some 42) (v := ?_) (a' := ?_) #[true, true, true, true, true, true, true, true, true, true, true, true, true, true, false] rfl rfl (by kernel_rfl) (fun _ _ _ h => h) (Or.inl ⟨by rfl, ?_⟩) ?_ ?_
    rotate_left
    ·intro w'
     go_simp
     with_reducible rfl
    rotate_left
    ·simp only [Act.put, zT, zZ, zU, i64_w, i32_w]
     rfl
    refine last_ (i := 14) (N := none) #[true, true, true, true, true, true, true, true, true, true, true, true, true, true, true] rfl rfl (by kernel_rfl) (by decide) (fun K hK => ?_)
    refine skip_ (w1 := ?_) (by rfl) rfl ?_ ?_
    rotate_left
    ·go_simp
     rfl
    refine hK.out _ _ ?_
    clear hK K
    refine done_ (by kernel_rfl) ?_
    have n0 : IsArr ((W0.drewN (1 + m)).setCell ⟨g, d, none⟩ (.int .u32 (rl (Go.bits .xor .u32 vp vq) 8))) g 110 .u32 (qx y0 d a 8) := by
     have h := IsArr.set (HX.out.drewN (1 + m)) d (rl (Go.bits .xor .u32 vp vq) 8)
     rw [← HV.out.1, ← HV.out.2] at h ⊢
     exact h
    have n1 : IsArr ((W0.drewN (1 + m)).setCell ⟨g, d, none⟩ (.int .u32 (rl (Go.bits .xor .u32 vp vq) 8))) gr 110 .u32 z16 := (HR.out.drewN (1 + m)).far NXR.out _
    have n2 : IsArr ((W0.drewN (1 + m)).setCell ⟨g, d, none⟩ (.int .u32 (rl (Go.bits .xor .u32 vp vq) 8))) gy 38 .u64 byL := (HY.out.drewN (1 + m)).far NXY.out _
    have n3 := below_set (g := g) (j := d) (v := .int .u32 (rl (Go.bits .xor .u32 vp vq) 8)) (pw_below_drewN HB.out (1 + m)) LX.out
    generalize ((W0.drewN (1 + m)).setCell ⟨g, d, none⟩ (.int .u32 (rl (Go.bits .xor .u32 vp vq) 8))) = W1 at n0 n1 n2 n3 ⊢
    have HQ := zM (show qs xs a b c d (2 + 1) = qx y0 d a 8 by rw [← HY0.out, ← HE.out]; rfl)
    clear hcp hcq hfp hcy HX HR HY HB HL HU HV
    go_wp2
    go_roundw
    case rel => exact ⟨2 + 1, by omega, by go_num, by rw [HQ.out]; exact n0, n1, n2, n3⟩
    case measure => simp [intOf] <;> omega
   ·rw [show ((3 : Nat) : Int) = 3 from rfl]
    obtain ⟨vp, hvp⟩ : ∃ v, ys.getD c 0 = v := ⟨_, rfl⟩
    obtain ⟨vq, hvq⟩ : ∃ v, ys.getD d 0 = v := ⟨_, rfl⟩
    have hcp : wr.cell? ⟨g, c, none⟩ = some (.int .u32 vp) := by rw [← hvp]; exact HX.out.cell c (by rw [HL.out]; omega)
    have hcq : wr.cell? ⟨g, d, none⟩ = some (.int .u32 vq) := by rw [← hvq]; exact HX.out.cell d (by rw [HL.out]; omega)
    have hfp := HX.out.frozen c
    have HV := zM (And.intro hvp hvq)
    clear hvp hvq
    go_wp2
    go_region
    have n0 : IsArr (wr.setCell ⟨g, c, none⟩ (.int .u32 ((vp + vq) % 4294967296))).drew g 110 .u32 (qa ys c d) := by
     have h := IsArr.set HX.out c ((vp + vq) % 4294967296)
     rw [← HV.out.1, ← HV.out.2] at h ⊢
     exact h.drew
    have n1 : IsArr (wr.setCell ⟨g, c, none⟩ (.int .u32 ((vp + vq) % 4294967296))).drew gr 110 .u32 z16 := (HR.out.far NXR.out _).drew
    have n2 : IsArr (wr.setCell ⟨g, c, none⟩ (.int .u32 ((vp + vq) % 4294967296))).drew gy 38 .u64 byL := (HY.out.far NXY.out _).drew
    have n3 := below_drew1 (below_set (g := g) (j := c) (v := .int .u32 ((vp + vq) % 4294967296)) HB.out LX.out)
    generalize (wr.setCell ⟨g, c, none⟩ (.int .u32 ((vp + vq) % 4294967296))).drew = W0 at n0 n1 n2 n3 ⊢
    obtain ⟨y0, hy⟩ : ∃ y, qa ys c d = y := ⟨_, rfl⟩
    rw [hy] at n0
    have m1 := zM (show y0.length = 16 by rw [← hy, qa_length]; exact HL.out)
    have m2 := zM (show AU y0 by rw [← hy]; exact qa_U HU.out _ _)
    have HY0 := zM hy
    clear hcp hcq hfp HX HR HY HB HL HU HV hy
    have HX := zM n0
    have HR := zM n1
    have HY := zM n2
    have HB := zM n3
    have HL := m1
    have HU := m2
    clear n0 n1 n2 n3 m1 m2
    obtain ⟨vp, hvp⟩ : ∃ v, y0.getD b 0 = v := ⟨_, rfl⟩
    obtain ⟨vq, hvq⟩ : ∃ v, y0.getD c 0 = v := ⟨_, rfl⟩
    have hcp : W0.cell? ⟨g, b, none⟩ = some (.int .u32 vp) := by rw [← hvp]; exact HX.out.cell b (by rw [HL.out]; omega)
    have hcq : W0.cell? ⟨g, c, none⟩ = some (.int .u32 vq) := by rw [← hvq]; exact HX.out.cell c (by rw [HL.out]; omega)
    have hfp := HX.out.frozen b
    have HV := zM (And.intro hvp hvq)
    have hcy : W0.cell? ⟨gy, 3, none⟩ = some (.int .u64 7) := HY.out.cell 3 (by decide)
    have HUX := zM (show U (Go.bits .xor .u32 vp vq) by rw [← hvp, ← hvq]; exact (U_bits (HU.out.getD _) (HU.out.getD _)).2.2)
    clear hvp hvq
    go_wp2
    refine start_ (n := 15) (S := fun w' => w'.cell? ⟨g, b, none⟩ = some (.int .u32 vp) ∧ w'.cell? ⟨g, c, none⟩ = some (.int .u32 vq) ∧ w'.cell? ⟨gy, 3, none⟩ = some (.int .u64 7)) (ds := [14]) #[false, false, false, false, false, false, false, false, false, false, false, false, false, false, false] (by kernel_rfl) rfl rfl ⟨hcp, hcq, hcy⟩ (fun hHeld => ?_)
    refine pure_ (i := 0) (N := some 51) (v := ?_) (a' := ?_) #[true, false, false, false, false, false, false, false, false, false, false, false, false, false, false] rfl rfl (by kernel_rfl) (fun _ _ _ h => h) (Or.inl ⟨by rfl, ?_⟩) ?_ ?_
    rotate_left
    ·intro w'
     go_simp
     with_reducible rfl
    rotate_left
    ·simp only [Act.put, zT, zZ, zU, i64_w, i32_w]
     rfl
    refine pure_ (i := 1) (N := some 52) (v := ?_) (a' := ?_) #[true, true, false, false, false, false, false, false, false, false, false, false, false, false, false] rfl rfl (by kernel_rfl) (fun _ _ _ h => h) (Or.inl ⟨by rfl, ?_⟩) ?_ ?_
    rotate_left
    ·intro w'
     go_simp
     with_reducible rfl
    rotate_left
    ·simp only [Act.put, zT, zZ, zU, i64_w, i32_w]
     rfl
    refine pure_ (i := 2) (N := some 53) (v := ?_) (a' := ?_) #[true, true, true, false, false, false, false, false, false, false, false, false, false, false, false] rfl rfl (by kernel_rfl) (fun _ _ _ h => h) (Or.inl ⟨by rfl, ?_⟩) ?_ ?_
    rotate_left
    ·intro w'
     go_simp
     with_reducible rfl
    rotate_left
    ·simp only [Act.put, zT, zZ, zU, i64_w, i32_w]
     rfl
    refine pure_ (i := 4) (N := some 55) (v := ?_) (a' := ?_) #[true, true, true, false, true, false, false, false, false, false, false, false, false, false, false] rfl rfl (by kernel_rfl) (fun _ _ _ h => h) (Or.inl ⟨by rfl, ?_⟩) ?_ ?_
    rotate_left
    ·intro w'
     go_simp
     with_reducible rfl
    rotate_left
    ·simp only [Act.put, zT, zZ, zU, i64_w, i32_w]
     rfl
    refine pure_ (i := 5) (N := some 56) (v := ?_) (a' := ?_) #[true, true, true, false, true, true, false, false, false, false, false, false, false, false, false] rfl rfl (by kernel_rfl) (fun _ _ _ h => h) (Or.inl ⟨by rfl, ?_⟩) ?_ ?_
    rotate_left
    ·intro w'
     go_simp
     with_reducible rfl
    rotate_left
    ·simp only [Act.put, zT, zZ, zU, i64_w, i32_w]
     rfl
    refine pure_ (i := 8) (N := some 59) (v := ?_) (a' := ?_) #[true, true, true, false, true, true, false, false, true, false, false, false, false, false, false] rfl rfl (by kernel_rfl) (fun _ _ _ h => h) (Or.inl ⟨by rfl, ?_⟩) ?_ ?_
    rotate_left
    ·intro w'
     go_simp
     with_reducible rfl
    rotate_left
    ·simp only [Act.put, zT, zZ, zU, i64_w, i32_w]
     rfl
    refine pure_ (i := 9) (N := some 60) (v := ?_) (a' := ?_) #[true, true, true, false, true, true, false, false, true, true, false, false, false, false, false] rfl rfl (by kernel_rfl) (fun _ _ _ h => h) (Or.inl ⟨by rfl, ?_⟩) ?_ ?_
    rotate_left
    ·intro w'
     go_simp
     with_reducible rfl
    rotate_left
    ·simp only [Act.put, zT, zZ, zU, i64_w, i32_w]
     rfl
    refine pure_ (i := 10) (N := some 61) (v := ?_) (a' := ?_) #[true, true, true, false, true, true, false, false, true, true, true, false, false, false, false] rfl rfl (by kernel_rfl) (fun _ _ _ h => h) (Or.inl ⟨by rfl, ?_⟩) ?_ ?_
    rotate_left
    ·intro w'
     go_simp
     with_reducible rfl
    rotate_left
    ·simp only [Act.put, zT, zZ, zU, i64_w, i32_w]
     rfl
    refine take_ (i := 3) (N := some 54) (v := ?_) (a' := ?_) #[true, true, true, true, true, true, false, false, true, true, true, false, false, false, false] rfl rfl (by kernel_rfl) (fun _ _ _ h => h) (Or.inl ⟨by rfl, ?_⟩) hHeld ?_ ?_
    rotate_left
    ·rintro w' ⟨s0, s1, s2⟩
     go_simp
     with_reducible rfl
    rotate_left
    ·simp only [Act.put, zT, zZ, zU, i64_w, i32_w]
     rfl
    refine take_ (i := 6) (N := some 57) (v := ?_) (a' := ?_) #[true, true, true, true, true, true, true, false, true, true, true, false, false, false, false] rfl rfl (by kernel_rfl) (fun _ _ _ h => h) (Or.inl ⟨by rfl, ?_⟩) hHeld ?_ ?_
    rotate_left
    ·rintro w' ⟨s0, s1, s2⟩
     go_simp
     with_reducible rfl
    rotate_left
    ·simp only [Act.put, zT, zZ, zU, i64_w, i32_w]
     rfl
    refine pure_ (i := 7) (N := some 58) (v := ?_) (a' := ?_) #[true, true, true, true, true, true, true, true, true, true, true, false, false, false, false] rfl rfl (by kernel_rfl) (fun _ _ _ h => h) (Or.inl ⟨by rfl, ?_⟩) ?_ ?_
    rotate_left
    ·intro w'
     go_simp
     with_reducible rfl
    rotate_left
    ·simp only [Act.put, zT, zZ, zU, i64_w, i32_w]
     rfl
    refine take_ (i := 11) (N := some 62) (v := ?_) (a' := ?_) #[true, true, true, true, true, true, true, true, true, true, true, true, false, false, false] rfl rfl (by kernel_rfl) (fun _ _ _ h => h) (Or.inl ⟨by rfl, ?_⟩) hHeld ?_ ?_
    rotate_left
    ·rintro w' ⟨s0, s1, s2⟩
     go_simp
     with_reducible rfl
    rotate_left
    ·simp only [Act.put, zT, zZ, zU, i64_w, i32_w]
     rfl
    refine one_ (i := 12) (N := some 63) #[true, true, true, true, true, true, true, true, true, true, true, true, true, false, false] rfl rfl (by kernel_rfl) (by decide) (fun K hK => ?_)
    refine goes_ Tryd.func83 (by kernel_rfl) rfl #[.int .u32 (Go.bits .xor .u32 vp vq), .int .u64 7] (by rfl) rfl rfl (by simp only [List.map_toArray, List.map_cons, List.map_nil]; rfl) ?_
    with_reducible refine (left_7 HUX.out _).mono ?_
    rintro e w1 ⟨rfl, m, rfl⟩
    refine ⟨_, rfl, ?_⟩
    refine hK.out _ _ ⟨hHeld.1, hHeld.2.1, hHeld.2.2⟩ (fun hHeld => ?_)
    clear hK K
    refine norm_ (a' := ?_) ?_ ?_
    rotate_left
    ·show Act.put _ (some 63) _ = _
     simp only [Act.put, zT, zZ, zU, i64_w, i32_w]
     rfl
    refine pure_ (i := 13) (N := some 64) (v := ?_) (a' := ?_) #[true, true, true, true, true, true, true, true, true, true, true, true, true, true, false] rfl rfl (by kernel_rfl) (fun _ _ _ h => h) (Or.inl ⟨by rfl, ?_⟩) ?_ ?_
    rotate_left
    ·intro w'
     go_simp
     with_reducible rfl
    rotate_left
    ·simp only [Act.put, zT, zZ, zU, i64_w, i32_w]
     rfl
    refine last_ (i := 14) (N := none) #[true, true, true, true, true, true, true, true, true, true, true, true, true, true, true] rfl rfl (by kernel_rfl) (by decide) (fun K hK => ?_)
    refine skip_ (w1 := ?_) (by rfl) rfl ?_ ?_
    rotate_left
    ·go_simp
     rfl
    refine hK.out _ _ ?_
    clear hK K
    refine done_ (by kernel_rfl) ?_
    have n0 : IsArr ((W0.drewN (1 + m)).setCell ⟨g, b, none⟩ (.int .u32 (rl (Go.bits .xor .u32 vp vq) 7))) g 110 .u32 (qx y0 b c 7) := by
     have h := IsArr.set (HX.out.drewN (1 + m)) b (rl (Go.bits .xor .u32 vp vq) 7)
     rw [← HV.out.1, ← HV.out.2] at h ⊢
     exact h
    have n1 : IsArr ((W0.drewN (1 + m)).setCell ⟨g, b, none⟩ (.int .u32 (rl (Go.bits .xor .u32 vp vq) 7))) gr 110 .u32 z16 := (HR.out.drewN (1 + m)).far NXR.out _
    have n2 : IsArr ((W0.drewN (1 + m)).setCell ⟨g, b, none⟩ (.int .u32 (rl (Go.bits .xor .u32 vp vq) 7))) gy 38 .u64 byL := (HY.out.drewN (1 + m)).far NXY.out _
    have n3 := below_set (g := g) (j := b) (v := .int .u32 (rl (Go.bits .xor .u32 vp vq) 7)) (pw_below_drewN HB.out (1 + m)) LX.out
    generalize ((W0.drewN (1 + m)).setCell ⟨g, b, none⟩ (.int .u32 (rl (Go.bits .xor .u32 vp vq) 7))) = W1 at n0 n1 n2 n3 ⊢
    have HQ := zM (show qs xs a b c d (3 + 1) = qx y0 b c 7 by rw [← HY0.out, ← HE.out]; rfl)
    clear hcp hcq hfp hcy HX HR HY HB HL HU HV
    go_wp2
    go_roundw
    case rel => exact ⟨3 + 1, by omega, by go_num, by rw [HQ.out]; exact n0, n1, n2, n3⟩
    case measure => simp [intOf] <;> omega
  ·have ek : k = 4 := by omega
   subst ek
   rw [show ((4 : Nat) : Int) = 4 from rfl]
   have HQ := zM (show q4 xs a b c d = ys from HE.out)
   go_wp2_with (first
    | ((with_reducible refine gate_dst (N := 65) rfl ?_); refine arr_load rfl 110 (.tmp 5) rfl g 16 22 .u32 ys rfl 110 HX.out Tryd.underlying110 (by rw [HL.out]; kernel_rfl) ?_)
    | ((with_reducible refine gate_store (t := 110) (p := 10) (v := .tmp 65) rfl ?_); refine arr_store rfl rfl 110 (.tmp 10) (.tmp 65) rfl gr .u32 z16 ys rfl rfl 110 HR.out (by rw [HL.out]; kernel_rfl) (by rw [HL.out]; rfl) ?_; intro w9 hx hs; have G1 := zM (hs.below HB.out LR.out); have G2 := zM hx; clear hx hs))
   exact bodyPost_ret (results_arr (k := .u32) rfl _ _ gr 16 22 ys 110 rfl G2.out Tryd.underlying110 (by rw [HL.out]; kernel_rfl)) rfl ⟨by rw [HQ.out], G1.out⟩
end Go.Proofs.YtgbhjkkfleeodaaDoor.Cha
namespace Go.Proofs.YtgbhjkkfleeodaaDoor.Cha
open Go.RowKit Go.Proofs.YtgbhjkkfleeodaaDoorW.PrintWords Go.Proofs.YtgbhjkkfleeodaaDoorW.PrintLast Go.Proofs.YtgbhjkkfleeodaaDoorW.PrintMore Go.Proofs.YtgbhjkkfleeodaaDoor.XA Go.Proofs.YtgbhjkkfleeodaaDoor.XU Go.Proofs.YtgbhjkkfleeodaaDoor.XB Go.Proofs.YtgbhjkkfleeodaaDoor.XM
open Go.Proofs.YtgbhjkkfleeodaaDoorW.PrintWords.Aside0 renaming mk → zM
open List renaming setIfInBounds_toArray → zT, set_cons_zero → zZ, set_cons_succ → zU
set_option linter.unusedVariables false
set_option linter.unusedSimpArgs false
theorem colL_U {xs : List Int} (h : AU xs) (k : Nat) : AU (colL xs k) := by
 induction k with
 | zero => exact h
 | succ k ih => exact q4_U ih _ _ _ _
theorem dgL_U {xs : List Int} (h : AU xs) (k : Nat) : AU (dgL xs k) := by
 induction k with
 | zero => exact h
 | succ k ih => exact q4_U ih _ _ _ _
theorem rn_U {xs : List Int} (h : AU xs) (k : Nat) : AU (rn xs k) := by
 induction k with
 | zero => exact h
 | succ k ih => exact dgL_U (colL_U ih 4) 4
theorem k0L_U : AU k0L := by
 intro x hx
 have h := List.all_eq_true.1 (show (k0L.all fun x => decide (0 ≤ x) && decide (x < 4294967296)) = true by kernel_rfl) x hx
 rw [Bool.and_eq_true, decide_eq_true_eq, decide_eq_true_eq] at h
 exact h
theorem firstL_U (key nonce : ByteArray) {n : Int} (hn : U n) : AU (firstL key nonce n) := lay_U ((lay_U k0L_U 4 key 8).set 12 hn) 13 nonce 3
theorem str_nil : (⟨#[]⟩ : ByteArray) = strOfNums [] := by apply eq_of_data; rw [strOfNums_data]; rfl
theorem rq0 (ys : List Int) (hl : ys.length = 16) (hu : AU ys) (W : World) : Calls Tryd.prog 71 #[.agg (arrK .u32 ys), .int .i64 0, .int .i64 4, .int .i64 8, .int .i64 12] W fun e w' => e = .returned (.agg (arrK .u32 (q4 ys 0 4 8 12))) ∧ Below W.heap.size W w' := refquarter_calls 0 4 8 12 (by decide) (by decide) (by decide) (by decide) ys hl hu W
theorem rq1 (ys : List Int) (hl : ys.length = 16) (hu : AU ys) (W : World) : Calls Tryd.prog 71 #[.agg (arrK .u32 ys), .int .i64 1, .int .i64 5, .int .i64 9, .int .i64 13] W fun e w' => e = .returned (.agg (arrK .u32 (q4 ys 1 5 9 13))) ∧ Below W.heap.size W w' := refquarter_calls 1 5 9 13 (by decide) (by decide) (by decide) (by decide) ys hl hu W
theorem rq2 (ys : List Int) (hl : ys.length = 16) (hu : AU ys) (W : World) : Calls Tryd.prog 71 #[.agg (arrK .u32 ys), .int .i64 2, .int .i64 6, .int .i64 10, .int .i64 14] W fun e w' => e = .returned (.agg (arrK .u32 (q4 ys 2 6 10 14))) ∧ Below W.heap.size W w' := refquarter_calls 2 6 10 14 (by decide) (by decide) (by decide) (by decide) ys hl hu W
theorem rq3 (ys : List Int) (hl : ys.length = 16) (hu : AU ys) (W : World) : Calls Tryd.prog 71 #[.agg (arrK .u32 ys), .int .i64 3, .int .i64 7, .int .i64 11, .int .i64 15] W fun e w' => e = .returned (.agg (arrK .u32 (q4 ys 3 7 11 15))) ∧ Below W.heap.size W w' := refquarter_calls 3 7 11 15 (by decide) (by decide) (by decide) (by decide) ys hl hu W
theorem rq4 (ys : List Int) (hl : ys.length = 16) (hu : AU ys) (W : World) : Calls Tryd.prog 71 #[.agg (arrK .u32 ys), .int .i64 0, .int .i64 5, .int .i64 10, .int .i64 15] W fun e w' => e = .returned (.agg (arrK .u32 (q4 ys 0 5 10 15))) ∧ Below W.heap.size W w' := refquarter_calls 0 5 10 15 (by decide) (by decide) (by decide) (by decide) ys hl hu W
theorem rq5 (ys : List Int) (hl : ys.length = 16) (hu : AU ys) (W : World) : Calls Tryd.prog 71 #[.agg (arrK .u32 ys), .int .i64 1, .int .i64 6, .int .i64 11, .int .i64 12] W fun e w' => e = .returned (.agg (arrK .u32 (q4 ys 1 6 11 12))) ∧ Below W.heap.size W w' := refquarter_calls 1 6 11 12 (by decide) (by decide) (by decide) (by decide) ys hl hu W
theorem rq6 (ys : List Int) (hl : ys.length = 16) (hu : AU ys) (W : World) : Calls Tryd.prog 71 #[.agg (arrK .u32 ys), .int .i64 2, .int .i64 7, .int .i64 8, .int .i64 13] W fun e w' => e = .returned (.agg (arrK .u32 (q4 ys 2 7 8 13))) ∧ Below W.heap.size W w' := refquarter_calls 2 7 8 13 (by decide) (by decide) (by decide) (by decide) ys hl hu W
theorem rq7 (ys : List Int) (hl : ys.length = 16) (hu : AU ys) (W : World) : Calls Tryd.prog 71 #[.agg (arrK .u32 ys), .int .i64 3, .int .i64 4, .int .i64 9, .int .i64 14] W fun e w' => e = .returned (.agg (arrK .u32 (q4 ys 3 4 9 14))) ∧ Below W.heap.size W w' := refquarter_calls 3 4 9 14 (by decide) (by decide) (by decide) (by decide) ys hl hu W
theorem rn_nest (xs : List Int) : dgL (colL xs 4) 4 = (q4 (q4 (q4 (q4 (q4 (q4 (q4 (q4 xs 0 4 8 12) 1 5 9 13) 2 6 10 14) 3 7 11 15) 0 5 10 15) 1 6 11 12) 2 7 8 13) 3 4 9 14) := rfl
set_option maxHeartbeats 8000000 in
set_option maxRecDepth 100000 in
theorem refblock_calls (key nonce : ByteArray) (n : Int) (hk : key.size = 32) (hn : nonce.size = 12) (hnu : U n) (w : World) :
  Calls Tryd.prog 55 #[.string key, .string nonce, .int .u32 n] w fun e w' => e = .returned (.string (blk key nonce n)) ∧ Below w.heap.size w w' := by
 have HB := zM (Below.refl w.heap.size w)
 have HKN := zM (And.intro hk (And.intro hn hnu))
 clear hk hn hnu
 go_enter Tryd.func55, Tryd.ntmps55
 go_wp2_with (first
  | ((with_reducible refine gate_dst (N := 7) rfl ?_); refine arr_new ?hg (N := 7) ?hd z16 .u32 110 ?hr ?_; (case hd => rfl); (case hg => rfl); (case hr => first | (go_simp; done) | (go_simp; rfl)); intro gf eg w2 hx hb; have HX := zM hx; have n0 := zM (below_step HB.out hb); have LX := zM (show w.heap.size ≤ gf by rw [eg]; exact HB.out.size); clear HB hx hb eg; have HB := n0; clear n0)
  | ((with_reducible refine gate_store (t := 110) (p := 7) (v := .tmp 15) rfl ?_); refine arr_store rfl rfl 110 (.tmp 7) (.tmp 15) rfl gf .u32 z16 k0L rfl rfl 110 HX.out (by kernel_rfl) rfl ?_; intro w4 hx hs; have n0 := zM (hs.below HB.out LX.out); clear HB HX; have HX := zM hx; have HB := n0; clear n0 hx hs))
 go_loopw [8] (fun i wr => ∃ k : Nat, k ≤ 8 ∧ i = .int .i64 k ∧ IsArr wr gf 110 .u32 (lay k0L 4 key k) ∧ Below w.heap.size w wr) (fun i _ => 8 - (intOf i).toNat)
 case atStart => exact ⟨0, by omega, rfl, HX.out, HB.out⟩
 case round =>
  clear HX HB
  obtain ⟨k, hkk, rfl, hX, hB⟩ := hrel
  have HB := zM hB; have HX := zM hX
  clear hB hX
  by_cases hlt : k < 8
  ·have q0 : decide ((k : Int) < 8) = true := decide_eq_true (by omega)
   have q1 : (0 : Int) ≤ k := by omega
   obtain ⟨xs, hxs⟩ : ∃ xs, lay k0L 4 key k = xs := ⟨_, rfl⟩
   have hxl : xs.length = 16 := by rw [← hxs, lay_length]; rfl
   rw [hxs] at HX
   have HN := zM (show lay k0L 4 key (k + 1) = xs.set (4 + k) (rw4 key (4 * (k : Int))) by rw [← hxs]; rfl)
   clear hxs
   obtain ⟨vo, hvo⟩ : ∃ v, wr.cell? ⟨gf, 4 + k, none⟩ = some (.int .u32 v) := ⟨_, HX.out.cell (4 + k) (by omega)⟩
   have hfo := HX.out.frozen (4 + k)
   have r1 : IntKind.i64.wrap (4 + (k : Int)) = 4 + (k : Int) := by rw [IntKind.wrap_i64]; omega
   have r2 : (0 : Int) ≤ 4 + (k : Int) := by omega
   have r3 : 4 + (k : Int) < 16 := by omega
   have r4 : (4 + (k : Int)).toNat = 4 + k := by omega
   have CW := zM (fun W : World => refword_calls key (4 * (k : Int)) (by omega) (by have := HKN.out.1; omega) (by have := HKN.out.1; omega) W)
   clear hxl
   go_wp2_with (first
    | (go_at_call 70; with_reducible refine (CW.out _).mono ?_; rintro e w' ⟨rfl, m, rfl⟩))
   go_roundw
   case rel => exact ⟨k + 1, by omega, by go_num, by rw [HN.out]; exact (HX.out.drewN m).set (4 + k) _, below_set (pw_below_drewN HB.out m) LX.out⟩
   case measure => simp [intOf]; omega
  ·have ek : k = 8 := by omega
   subst ek
   rw [show ((8 : Nat) : Int) = 8 from rfl]
   obtain ⟨y0, hy0⟩ : ∃ y, lay k0L 4 key 8 = y := ⟨_, rfl⟩
   rw [hy0] at HX
   have HL0 := zM (show y0.length = 16 by rw [← hy0, lay_length]; rfl)
   obtain ⟨vo, hvo⟩ : ∃ v, wr.cell? ⟨gf, 12, none⟩ = some (.int .u32 v) := ⟨_, HX.out.cell 12 (by rw [HL0.out]; omega)⟩
   have hfo := HX.out.frozen 12
   have H0 := zM hy0
   clear hy0
   go_wp2
   have n1 := (HX.out.set 12 n)
   have n3 := (below_set (g := gf) (j := 12) (v := .int .u32 n) HB.out LX.out)
   generalize wr.setCell ⟨gf, 12, none⟩ (.int .u32 n) = w5 at n1 n3 ⊢
   obtain ⟨y1, hy1⟩ : ∃ y, y0.set 12 n = y := ⟨_, rfl⟩
   rw [hy1] at n1
   have HL1 := zM (show y1.length = 16 by rw [← hy1, List.length_set]; exact HL0.out)
   have H1 := zM hy1
   clear hy1 HX HB hvo hfo
   have HX := zM n1
   have HB := zM n3
   clear n1 n3
   go_loopw [9] (fun i wr => ∃ k : Nat, k ≤ 3 ∧ i = .int .i64 k ∧ IsArr wr gf 110 .u32 (lay y1 13 nonce k) ∧ Below w.heap.size w wr) (fun i _ => 3 - (intOf i).toNat)
   case atStart => exact ⟨0, by omega, rfl, HX.out, HB.out⟩
   case round =>
    clear HX HB
    obtain ⟨k, hkk, rfl, hX, hB⟩ := hrel
    have HB := zM hB; have HX := zM hX
    clear hB hX
    by_cases hlt : k < 3
    ·have q0 : decide ((k : Int) < 3) = true := decide_eq_true (by omega)
     have q1 : (0 : Int) ≤ k := by omega
     obtain ⟨xs, hxs⟩ : ∃ xs, lay y1 13 nonce k = xs := ⟨_, rfl⟩
     have hxl : xs.length = 16 := by rw [← hxs, lay_length]; exact HL1.out
     rw [hxs] at HX
     have HN := zM (show lay y1 13 nonce (k + 1) = xs.set (13 + k) (rw4 nonce (4 * (k : Int))) by rw [← hxs]; rfl)
     clear hxs
     obtain ⟨vo, hvo⟩ : ∃ v, wr.cell? ⟨gf, 13 + k, none⟩ = some (.int .u32 v) := ⟨_, HX.out.cell (13 + k) (by omega)⟩
     have hfo := HX.out.frozen (13 + k)
     have r1 : IntKind.i64.wrap (13 + (k : Int)) = 13 + (k : Int) := by rw [IntKind.wrap_i64]; omega
     have r2 : (0 : Int) ≤ 13 + (k : Int) := by omega
     have r3 : 13 + (k : Int) < 16 := by omega
     have r4 : (13 + (k : Int)).toNat = 13 + k := by omega
     have CW := zM (fun W : World => refword_calls nonce (4 * (k : Int)) (by omega) (by have := HKN.out.2.1; omega) (by have := HKN.out.2.1; omega) W)
     clear hxl
     go_wp2_with (first
      | (go_at_call 70; with_reducible refine (CW.out _).mono ?_; rintro e w' ⟨rfl, m, rfl⟩))
     go_roundw
     case rel => exact ⟨k + 1, by omega, by go_num, by rw [HN.out]; exact (HX.out.drewN m).set (13 + k) _, below_set (pw_below_drewN HB.out m) LX.out⟩
     case measure => simp [intOf]; omega
    ·have ek : k = 3 := by omega
     subst ek
     rw [show ((3 : Nat) : Int) = 3 from rfl]
     obtain ⟨fs, hfs⟩ : ∃ y, lay y1 13 nonce 3 = y := ⟨_, rfl⟩
     rw [hfs] at HX
     have HE := zM (show firstL key nonce n = fs by rw [firstL, H0.out, H1.out, hfs])
     have HFL := zM (show fs.length = 16 by rw [← HE.out]; exact firstL_length key nonce n)
     have HFU := zM (show AU fs by rw [← HE.out]; exact firstL_U key nonce HKN.out.2.2)
     clear hfs
     go_wp2_with (first
      | ((with_reducible refine gate_dst (N := 40) rfl ?_); refine arr_load rfl 110 (.tmp 7) rfl gf 16 22 .u32 fs rfl 110 HX.out Tryd.underlying110 (by rw [HFL.out]; kernel_rfl) ?_)
      | ((with_reducible refine gate_dst (N := 10) rfl ?_); refine arr_new ?hg (N := 10) ?hd z16 .u32 110 ?hr ?_; (case hd => rfl); (case hg => rfl); (case hr => first | (go_simp; done) | (go_simp; rfl)); intro gx eg w5 hx hb; have HF := zM (HX.out.below hb); have n0 := zM (below_step HB.out hb); have LF := zM (show w.heap.size ≤ gx by rw [eg]; exact HB.out.size); have NFX := zM (show gf ≠ gx by rw [eg]; exact Nat.ne_of_lt HX.out.lt); clear HB HX; have HX := zM hx; have HB := n0; clear n0 hx hb eg)
      | ((with_reducible refine gate_store (t := 110) (p := 10) (v := .tmp 40) rfl ?_); refine arr_store rfl rfl 110 (.tmp 10) (.tmp 40) rfl gx .u32 z16 fs rfl rfl 110 HX.out (by rw [HFL.out]; kernel_rfl) (by rw [HFL.out]; rfl) ?_; intro w6 hx hs; have n0 := zM (hs.below HB.out LF.out); have n1 := zM (hs.arr HF.out NFX.out); clear HB HX HF; have HX := zM hx; have HB := n0; have HF := n1; clear n0 n1 hx hs))
     go_loopw [11] (fun i wr => ∃ j : Nat, j ≤ 10 ∧ i = .int .i64 j ∧ IsArr wr gf 110 .u32 fs ∧ IsArr wr gx 110 .u32 (rn fs j) ∧ Below w.heap.size w wr) (fun i _ => 10 - (intOf i).toNat)
     case atStart => exact ⟨0, by omega, rfl, HF.out, HX.out, HB.out⟩
     case round =>
      clear HF HX HB
      obtain ⟨j, hj, rfl, hF, hX, hB⟩ := hrel
      have HF := zM hF; have HB := zM hB; have HX := zM hX
      clear hF hB hX
      by_cases hlt : j < 10
      ·have q0 : decide ((j : Int) < 10) = true := decide_eq_true (by omega)
       obtain ⟨xs, hxs⟩ : ∃ xs, rn fs j = xs := ⟨_, rfl⟩
       have HL := zM (show xs.length = 16 by rw [← hxs, rn_length]; exact HFL.out)
       have HU := zM (show AU xs by rw [← hxs]; exact rn_U HFU.out j)
       have HN := zM (show rn fs (j + 1) = dgL (colL xs 4) 4 by rw [← hxs]; rfl)
       rw [hxs] at HX
       clear hxs
       go_wp2_with (first
        | ((with_reducible refine gate_dst (N := 45) rfl ?_); refine arr_load rfl 110 (.tmp 10) rfl gx 16 22 .u32 xs rfl 110 HX.out Tryd.underlying110 (by rw [HL.out]; kernel_rfl) ?_)
        | (go_at_call 71; with_reducible refine (rq0 xs HL.out HU.out _).mono ?_; rintro e w7 ⟨rfl, hb⟩; obtain ⟨y1, hz⟩ : ∃ z, q4 xs 0 4 8 12 = z := ⟨_, rfl⟩; rw [hz]; have m1 := zM (show y1.length = 16 by rw [← hz, q4_length]; exact HL.out); have m2 := zM (show AU y1 by rw [← hz]; exact q4_U HU.out _ _ _ _); have m3 := zM (HX.out.below hb); have m4 := zM (HF.out.below hb); have m5 := zM (below_step HB.out hb); have E0 := zM hz; have HLo := HL; clear HL HU HX HF HB hz hb; have HL := m1; have HU := m2; have HX := m3; have HF := m4; have HB := m5; clear m1 m2 m3 m4 m5)
        | ((with_reducible refine gate_store (t := 110) (p := 10) (v := .tmp 46) rfl ?_); refine arr_store rfl rfl 110 (.tmp 10) (.tmp 46) rfl gx .u32 xs y1 rfl rfl 110 HX.out (by rw [HL.out]; kernel_rfl) (by rw [HL.out, HLo.out]) ?_; intro w8 hx hs; have n0 := zM (hs.below HB.out LF.out); have n1 := zM (hs.arr HF.out NFX.out); clear HB HX HF HLo; have HX := zM hx; have HB := n0; have HF := n1; clear n0 n1 hx hs)
        | ((with_reducible refine gate_dst (N := 47) rfl ?_); refine arr_load rfl 110 (.tmp 10) rfl gx 16 22 .u32 y1 rfl 110 HX.out Tryd.underlying110 (by rw [HL.out]; kernel_rfl) ?_)
        | (go_at_call 71; with_reducible refine (rq1 y1 HL.out HU.out _).mono ?_; rintro e w7 ⟨rfl, hb⟩; obtain ⟨y2, hz⟩ : ∃ z, q4 y1 1 5 9 13 = z := ⟨_, rfl⟩; rw [hz]; have m1 := zM (show y2.length = 16 by rw [← hz, q4_length]; exact HL.out); have m2 := zM (show AU y2 by rw [← hz]; exact q4_U HU.out _ _ _ _); have m3 := zM (HX.out.below hb); have m4 := zM (HF.out.below hb); have m5 := zM (below_step HB.out hb); have E1 := zM hz; have HLo := HL; clear HL HU HX HF HB hz hb; have HL := m1; have HU := m2; have HX := m3; have HF := m4; have HB := m5; clear m1 m2 m3 m4 m5)
        | ((with_reducible refine gate_store (t := 110) (p := 10) (v := .tmp 48) rfl ?_); refine arr_store rfl rfl 110 (.tmp 10) (.tmp 48) rfl gx .u32 y1 y2 rfl rfl 110 HX.out (by rw [HL.out]; kernel_rfl) (by rw [HL.out, HLo.out]) ?_; intro w8 hx hs; have n0 := zM (hs.below HB.out LF.out); have n1 := zM (hs.arr HF.out NFX.out); clear HB HX HF HLo; have HX := zM hx; have HB := n0; have HF := n1; clear n0 n1 hx hs)
        | ((with_reducible refine gate_dst (N := 49) rfl ?_); refine arr_load rfl 110 (.tmp 10) rfl gx 16 22 .u32 y2 rfl 110 HX.out Tryd.underlying110 (by rw [HL.out]; kernel_rfl) ?_)
        | (go_at_call 71; with_reducible refine (rq2 y2 HL.out HU.out _).mono ?_; rintro e w7 ⟨rfl, hb⟩; obtain ⟨y3, hz⟩ : ∃ z, q4 y2 2 6 10 14 = z := ⟨_, rfl⟩; rw [hz]; have m1 := zM (show y3.length = 16 by rw [← hz, q4_length]; exact HL.out); have m2 := zM (show AU y3 by rw [← hz]; exact q4_U HU.out _ _ _ _); have m3 := zM (HX.out.below hb); have m4 := zM (HF.out.below hb); have m5 := zM (below_step HB.out hb); have E2 := zM hz; have HLo := HL; clear HL HU HX HF HB hz hb; have HL := m1; have HU := m2; have HX := m3; have HF := m4; have HB := m5; clear m1 m2 m3 m4 m5)
        | ((with_reducible refine gate_store (t := 110) (p := 10) (v := .tmp 50) rfl ?_); refine arr_store rfl rfl 110 (.tmp 10) (.tmp 50) rfl gx .u32 y2 y3 rfl rfl 110 HX.out (by rw [HL.out]; kernel_rfl) (by rw [HL.out, HLo.out]) ?_; intro w8 hx hs; have n0 := zM (hs.below HB.out LF.out); have n1 := zM (hs.arr HF.out NFX.out); clear HB HX HF HLo; have HX := zM hx; have HB := n0; have HF := n1; clear n0 n1 hx hs)
        | ((with_reducible refine gate_dst (N := 51) rfl ?_); refine arr_load rfl 110 (.tmp 10) rfl gx 16 22 .u32 y3 rfl 110 HX.out Tryd.underlying110 (by rw [HL.out]; kernel_rfl) ?_)
        | (go_at_call 71; with_reducible refine (rq3 y3 HL.out HU.out _).mono ?_; rintro e w7 ⟨rfl, hb⟩; obtain ⟨y4, hz⟩ : ∃ z, q4 y3 3 7 11 15 = z := ⟨_, rfl⟩; rw [hz]; have m1 := zM (show y4.length = 16 by rw [← hz, q4_length]; exact HL.out); have m2 := zM (show AU y4 by rw [← hz]; exact q4_U HU.out _ _ _ _); have m3 := zM (HX.out.below hb); have m4 := zM (HF.out.below hb); have m5 := zM (below_step HB.out hb); have E3 := zM hz; have HLo := HL; clear HL HU HX HF HB hz hb; have HL := m1; have HU := m2; have HX := m3; have HF := m4; have HB := m5; clear m1 m2 m3 m4 m5)
        | ((with_reducible refine gate_store (t := 110) (p := 10) (v := .tmp 52) rfl ?_); refine arr_store rfl rfl 110 (.tmp 10) (.tmp 52) rfl gx .u32 y3 y4 rfl rfl 110 HX.out (by rw [HL.out]; kernel_rfl) (by rw [HL.out, HLo.out]) ?_; intro w8 hx hs; have n0 := zM (hs.below HB.out LF.out); have n1 := zM (hs.arr HF.out NFX.out); clear HB HX HF HLo; have HX := zM hx; have HB := n0; have HF := n1; clear n0 n1 hx hs)
        | ((with_reducible refine gate_dst (N := 53) rfl ?_); refine arr_load rfl 110 (.tmp 10) rfl gx 16 22 .u32 y4 rfl 110 HX.out Tryd.underlying110 (by rw [HL.out]; kernel_rfl) ?_)
        | (go_at_call 71; with_reducible refine (rq4 y4 HL.out HU.out _).mono ?_; rintro e w7 ⟨rfl, hb⟩; obtain ⟨y5, hz⟩ : ∃ z, q4 y4 0 5 10 15 = z := ⟨_, rfl⟩; rw [hz]; have m1 := zM (show y5.length = 16 by rw [← hz, q4_length]; exact HL.out); have m2 := zM (show AU y5 by rw [← hz]; exact q4_U HU.out _ _ _ _); have m3 := zM (HX.out.below hb); have m4 := zM (HF.out.below hb); have m5 := zM (below_step HB.out hb); have E4 := zM hz; have HLo := HL; clear HL HU HX HF HB hz hb; have HL := m1; have HU := m2; have HX := m3; have HF := m4; have HB := m5; clear m1 m2 m3 m4 m5)
        | ((with_reducible refine gate_store (t := 110) (p := 10) (v := .tmp 54) rfl ?_); refine arr_store rfl rfl 110 (.tmp 10) (.tmp 54) rfl gx .u32 y4 y5 rfl rfl 110 HX.out (by rw [HL.out]; kernel_rfl) (by rw [HL.out, HLo.out]) ?_; intro w8 hx hs; have n0 := zM (hs.below HB.out LF.out); have n1 := zM (hs.arr HF.out NFX.out); clear HB HX HF HLo; have HX := zM hx; have HB := n0; have HF := n1; clear n0 n1 hx hs)
        | ((with_reducible refine gate_dst (N := 55) rfl ?_); refine arr_load rfl 110 (.tmp 10) rfl gx 16 22 .u32 y5 rfl 110 HX.out Tryd.underlying110 (by rw [HL.out]; kernel_rfl) ?_)
        | (go_at_call 71; with_reducible refine (rq5 y5 HL.out HU.out _).mono ?_; rintro e w7 ⟨rfl, hb⟩; obtain ⟨y6, hz⟩ : ∃ z, q4 y5 1 6 11 12 = z := ⟨_, rfl⟩; rw [hz]; have m1 := zM (show y6.length = 16 by rw [← hz, q4_length]; exact HL.out); have m2 := zM (show AU y6 by rw [← hz]; exact q4_U HU.out _ _ _ _); have m3 := zM (HX.out.below hb); have m4 := zM (HF.out.below hb); have m5 := zM (below_step HB.out hb); have E5 := zM hz; have HLo := HL; clear HL HU HX HF HB hz hb; have HL := m1; have HU := m2; have HX := m3; have HF := m4; have HB := m5; clear m1 m2 m3 m4 m5)
        | ((with_reducible refine gate_store (t := 110) (p := 10) (v := .tmp 56) rfl ?_); refine arr_store rfl rfl 110 (.tmp 10) (.tmp 56) rfl gx .u32 y5 y6 rfl rfl 110 HX.out (by rw [HL.out]; kernel_rfl) (by rw [HL.out, HLo.out]) ?_; intro w8 hx hs; have n0 := zM (hs.below HB.out LF.out); have n1 := zM (hs.arr HF.out NFX.out); clear HB HX HF HLo; have HX := zM hx; have HB := n0; have HF := n1; clear n0 n1 hx hs)
        | ((with_reducible refine gate_dst (N := 57) rfl ?_); refine arr_load rfl 110 (.tmp 10) rfl gx 16 22 .u32 y6 rfl 110 HX.out Tryd.underlying110 (by rw [HL.out]; kernel_rfl) ?_)
        | (go_at_call 71; with_reducible refine (rq6 y6 HL.out HU.out _).mono ?_; rintro e w7 ⟨rfl, hb⟩; obtain ⟨y7, hz⟩ : ∃ z, q4 y6 2 7 8 13 = z := ⟨_, rfl⟩; rw [hz]; have m1 := zM (show y7.length = 16 by rw [← hz, q4_length]; exact HL.out); have m2 := zM (show AU y7 by rw [← hz]; exact q4_U HU.out _ _ _ _); have m3 := zM (HX.out.below hb); have m4 := zM (HF.out.below hb); have m5 := zM (below_step HB.out hb); have E6 := zM hz; have HLo := HL; clear HL HU HX HF HB hz hb; have HL := m1; have HU := m2; have HX := m3; have HF := m4; have HB := m5; clear m1 m2 m3 m4 m5)
        | ((with_reducible refine gate_store (t := 110) (p := 10) (v := .tmp 58) rfl ?_); refine arr_store rfl rfl 110 (.tmp 10) (.tmp 58) rfl gx .u32 y6 y7 rfl rfl 110 HX.out (by rw [HL.out]; kernel_rfl) (by rw [HL.out, HLo.out]) ?_; intro w8 hx hs; have n0 := zM (hs.below HB.out LF.out); have n1 := zM (hs.arr HF.out NFX.out); clear HB HX HF HLo; have HX := zM hx; have HB := n0; have HF := n1; clear n0 n1 hx hs)
        | ((with_reducible refine gate_dst (N := 59) rfl ?_); refine arr_load rfl 110 (.tmp 10) rfl gx 16 22 .u32 y7 rfl 110 HX.out Tryd.underlying110 (by rw [HL.out]; kernel_rfl) ?_)
        | (go_at_call 71; with_reducible refine (rq7 y7 HL.out HU.out _).mono ?_; rintro e w7 ⟨rfl, hb⟩; obtain ⟨y8, hz⟩ : ∃ z, q4 y7 3 4 9 14 = z := ⟨_, rfl⟩; rw [hz]; have m1 := zM (show y8.length = 16 by rw [← hz, q4_length]; exact HL.out); have m2 := zM (show AU y8 by rw [← hz]; exact q4_U HU.out _ _ _ _); have m3 := zM (HX.out.below hb); have m4 := zM (HF.out.below hb); have m5 := zM (below_step HB.out hb); have E7 := zM hz; have HLo := HL; clear HL HU HX HF HB hz hb; have HL := m1; have HU := m2; have HX := m3; have HF := m4; have HB := m5; clear m1 m2 m3 m4 m5)
        | ((with_reducible refine gate_store (t := 110) (p := 10) (v := .tmp 60) rfl ?_); refine arr_store rfl rfl 110 (.tmp 10) (.tmp 60) rfl gx .u32 y7 y8 rfl rfl 110 HX.out (by rw [HL.out]; kernel_rfl) (by rw [HL.out, HLo.out]) ?_; intro w8 hx hs; have n0 := zM (hs.below HB.out LF.out); have n1 := zM (hs.arr HF.out NFX.out); clear HB HX HF HLo; have HX := zM hx; have HB := n0; have HF := n1; clear n0 n1 hx hs))
       have HQ : rn fs (j + 1) = y8 := by rw [HN.out, rn_nest, E0.out, E1.out, E2.out, E3.out, E4.out, E5.out, E6.out, E7.out]
       go_roundw
       case rel => exact ⟨j + 1, by omega, by go_num, HF.out, by rw [HQ]; exact HX.out, HB.out⟩
       case measure => simp [intOf]; omega
      ·have ej : j = 10 := by omega
       subst ej
       rw [show ((10 : Nat) : Int) = 10 from rfl]
       obtain ⟨xs, hxs⟩ : ∃ xs, rn fs 10 = xs := ⟨_, rfl⟩
       have HL := zM (show xs.length = 16 by rw [← hxs, rn_length]; exact HFL.out)
       have HU := zM (show AU xs by rw [← hxs]; exact rn_U HFU.out 10)
       have HEB := zM (show blk key nonce n = strOfNums (outB xs fs 16) by rw [blk, blkL, HE.out, hxs])
       rw [hxs] at HX
       clear hxs hj hlt
       go_wp2
       go_loopw [12, 13] (fun v i wr => ∃ k : Nat, k ≤ 16 ∧ i = .int .i64 k ∧ v = .string (strOfNums (outB xs fs k)) ∧ IsArr wr gx 110 .u32 xs ∧ IsArr wr gf 110 .u32 fs ∧ Below w.heap.size w wr) (fun _ i _ => 16 - (intOf i).toNat)
       case atStart => exact ⟨0, by omega, rfl, by rw [str_nil]; rfl, HX.out, HF.out, HB.out⟩
       case round =>
        clear HX HF HB
        obtain ⟨k, hk, rfl, rfl, hX, hF, hB⟩ := hrel
        have HB := zM hB; have HX := zM hX; have HF := zM hF
        clear hB hX hF
        obtain ⟨oo, ho⟩ : ∃ o, strOfNums (outB xs fs k) = o := ⟨_, rfl⟩
        simp only [ho]
        by_cases h8 : k < 16
        ·obtain ⟨x, hx⟩ : ∃ x, xs.getD k 0 = x := ⟨_, rfl⟩
         obtain ⟨f, hf⟩ : ∃ f, fs.getD k 0 = f := ⟨_, rfl⟩
         have hcx : wr.cell? ⟨gx, k, none⟩ = some (.int .u32 x) := by rw [← hx]; exact HX.out.cell k (by rw [HL.out]; omega)
         have hcf : wr.cell? ⟨gf, k, none⟩ = some (.int .u32 f) := by rw [← hf]; exact HF.out.cell k (by rw [HFL.out]; omega)
         obtain ⟨s, hs⟩ : ∃ s, (x + f) % 4294967296 = s := ⟨_, rfl⟩
         have ux0 : 0 ≤ s := by omega
         have ux1 : s < 4294967296 := by omega
         have HX2 := zM (show outB xs fs (k + 1) = outB xs fs k ++ [s % 256, s / 256 % 256, s / 65536 % 256, s / 16777216 % 256] by rw [outB, hx, hf, hs])
         have hosz : oo.size = 4 * k := by rw [← ho, strOfNums_size, outB_length]
         obtain ⟨ys, hys⟩ : ∃ ys : List Int, ys = [s % 256, s / 256 % 256, s / 65536 % 256, s / 16777216] := ⟨_, rfl⟩
         have hsz : (strOfNums ys).size = 4 := by rw [strOfNums_size, hys]; rfl
         have b1 : (oo.size + (strOfNums ys).size ≤ 9223372036854775807) = True := eq_true (by omega)
         have b2 : (9223372036854775807 < oo.size + (strOfNums ys).size) = False := eq_false (by omega)
         have NY := zM hys
         have HO := zM ho
         clear hx hf ho hys hsz hosz
         have q1 : decide ((k : Int) < 16) = true := decide_eq_true (by omega)
         have q2 : (0 : Int) ≤ k := by omega
         have q3 : (k : Int) < 16 := by omega
         have hta : Int.tdiv s 16777216 = s / 16777216 := td ux0
         have htb : Int.tdiv s 65536 = s / 65536 := td ux0
         have htc : Int.tdiv s 256 = s / 256 := td ux0
         have htd : Int.tmod s 256 = s % 256 := tm ux0
         have hte : Int.tmod (s / 65536) 256 = s / 65536 % 256 := tm (by omega)
         have htf : Int.tmod (s / 256) 256 = s / 256 % 256 := tm (by omega)
         have hwa : IntKind.u32.wrap (s / 16777216) = s / 16777216 := by rw [IntKind.wrap_u32]; omega
         have hwb : IntKind.u32.wrap (s / 65536) = s / 65536 := by rw [IntKind.wrap_u32]; omega
         have hwc : IntKind.u32.wrap (s / 256) = s / 256 := by rw [IntKind.wrap_u32]; omega
         have HSS := zM (And.intro ux0 ux1)
         clear ux0 ux1
         go_wp2
         go_quiet (fail)
         all_goals have F2 := zM (And.intro (HX.out.drewN nq) (And.intro (HF.out.drewN nq) (pw_below_drewN HB.out nq)))
         clear hcx hcf HX HF HB
         generalize wr.drewN nq = wr at F2 ⊢
         have HX := zM F2.out.1
         have HF := zM F2.out.2.1
         have HB := zM F2.out.2.2
         clear F2
         go_wp2_with ((with_reducible refine gate_dst (N := 87) rfl ?_); refine Kd.R_lit (Kd.int .u8) _ 5 ?hg (N := 87) ?hd (xs := ([s % 256, s / 256 % 256, s / 65536 % 256, s / 16777216] : List Int)) (inner := [.int .u8 (s % 256), .int .u8 (s / 256 % 256), .int .u8 (s / 65536 % 256), .int .u8 (s / 16777216)]) (ok := fun _ => True) (okp := fun _ => True) ?hr ?hp (fun _ hk => hk) trivial (Below.refl _ _) (Nat.le_refl _) (by simp) ?_; (case hd => rfl); (case hg => rfl); (case hr => first | (go_simp; done) | (go_simp; rfl)); (case hp => exact (Reps.one (show Kd.M (Kd.int .u8) _ _ _ (s % 256) [.int .u8 (s % 256)] from rfl) (Reps.one (show Kd.M (Kd.int .u8) _ _ _ (s / 256 % 256) [.int .u8 (s / 256 % 256)] from rfl) (Reps.one (show Kd.M (Kd.int .u8) _ _ _ (s / 65536 % 256) [.int .u8 (s / 65536 % 256)] from rfl) (Reps.one (show Kd.M (Kd.int .u8) _ _ _ (s / 16777216) [.int .u8 (s / 16777216)] from rfl) (Reps.none _ _)))))); intro v102 w7 ho8 hb hg_ hnew_; clear hg_ hnew_; rw [← NY.out] at ho8; have n0_ := zM (Kd.R_lower ho8 HB.out.size); have n1_ := zM (below_step HB.out hb); have n2_ := zM (HX.out.below hb); have n3_ := zM (HF.out.below hb); clear HB HX HF; have HO103 := n0_; have HB := n1_; have HX := n2_; have HF := n3_; clear n0_ n1_ n2_ n3_; clear hb ho8; have hcv9 := own_string (P := Tryd.prog) Tryd.underlying34 Tryd.underlying5 Tryd.underlying9 (Kd.own_of_R HO103.out))
         go_roundw
         case measure => simp [intOf]; omega
         case rel =>
          refine ⟨k + 1, by omega, by go_num, ?_, HX.out, HF.out, HB.out⟩
          have hs1 := HSS.out
          rw [HX2.out, strOfNums_append, HO.out, NY.out, show s / 16777216 % 256 = s / 16777216 by omega]
        ·have ek : k = 16 := by omega
         subst ek
         have hoR : blk key nonce n = oo := by rw [HEB.out]; exact ho
         clear ho
         go_wp2
         go_ret
         exact ⟨by rw [hoR]; rfl, HB.out⟩
end Go.Proofs.YtgbhjkkfleeodaaDoor.Cha
namespace Go.Proofs.YtgbhjkkfleeodaaDoor.Cha
open Go.RowKit Go.Proofs.YtgbhjkkfleeodaaDoorW.PrintWords Go.Proofs.YtgbhjkkfleeodaaDoorW.PrintLast Go.Proofs.YtgbhjkkfleeodaaDoorW.PrintMore Go.Proofs.YtgbhjkkfleeodaaDoor.XA Go.Proofs.YtgbhjkkfleeodaaDoor.XU Go.Proofs.YtgbhjkkfleeodaaDoor.XB Go.Proofs.YtgbhjkkfleeodaaDoor.XM
open Go.Proofs.YtgbhjkkfleeodaaDoorW.PrintWords.Aside0 renaming mk → zM
open List renaming setIfInBounds_toArray → zT, set_cons_zero → zZ, set_cons_succ → zU
set_option linter.unusedVariables false
set_option linter.unusedSimpArgs false
def bno (i : Nat) : Int := ((i / 64 : Nat) : Int) % 4294967296
def tb (key nonce s : ByteArray) (i : Nat) : Int := Go.bits .xor .u8 (bt s i) (bt (blk key nonce (bno i)) ((i % 64 : Nat) : Int))
def tt (key nonce s : ByteArray) : Nat → List Int
 | 0 => bytesOf s
 | k + 1 => (tt key nonce s k).set k (tb key nonce s k)
theorem tt_length (key nonce s : ByteArray) (k : Nat) : (tt key nonce s k).length = s.size := by
 induction k with
 | zero => exact bytesOf_length s
 | succ k ih => rw [tt, List.length_set, ih]
theorem tt_high (key nonce s : ByteArray) (k j : Nat) (h : k ≤ j) : (tt key nonce s k).getD j 0 = bt s j := by
 induction k with
 | zero => exact (bt_nat s j).symm
 | succ k ih =>
  rw [tt, List.getD_eq_getElem?_getD, List.getElem?_set_ne (by omega), ← List.getD_eq_getElem?_getD]
  exact ih (by omega)
theorem bno_step (key nonce : ByteArray) (k : Nat) : (k + 1) % 64 = 0 ∨ blk key nonce (bno k) = blk key nonce (bno (k + 1)) := by
 by_cases h : (k + 1) % 64 = 0
 ·exact .inl h
 ·refine .inr ?_
  unfold bno
  rw [show (k + 1) / 64 = k / 64 by omega]
def turned (key nonce s : ByteArray) : ByteArray := strOfNums (tt key nonce s s.size)
theorem turn_none (key nonce s : ByteArray) (h : ¬ (key.size = 32 ∧ nonce.size = 12)) (w : World) : Calls Tryd.prog 38 #[.string key, .string nonce, .string s] w fun e w' => e = .returned (.string ⟨#[]⟩) ∧ w' = w := by
 go_enter Tryd.func38, Tryd.ntmps38
 go_wp2_with (go_at_call 37; with_reducible refine (may_false key nonce h _).mono ?_; rintro e w' ⟨rfl, rfl⟩)
 go_ret
 exact ⟨rfl, rfl⟩
set_option maxHeartbeats 8000000 in
set_option maxRecDepth 100000 in
theorem turn_calls (key nonce s : ByteArray) (hs : s.size ≤ 140737488351232) (hk : key.size = 32) (hn : nonce.size = 12) (w : World) :
  Calls Tryd.prog 38 #[.string key, .string nonce, .string s] w fun e w' => e = .returned (.string (turned key nonce s)) ∧ Below w.heap.size w w' := by
 have HK0 := zM (ownM_bytes w 5 s (by unfold maxLen; omega) w.heap.size (Nat.le_refl _))
 have HB0 := zM (bytes_below (Below.refl w.heap.size w) (Nat.le_refl _) 5 s)
 have kc := print_bytes (P := Tryd.prog) 9 34 5 Tryd.underlying9 Tryd.underlying34 Tryd.underlying5 s w
 have HKN := zM (And.intro hk hn)
 have HSZ := zM hs
 clear hk hn
 go_enter Tryd.func38, Tryd.ntmps38
 go_wp2_with (go_at_call 37; with_reducible refine (may_true key nonce HKN.out.1 HKN.out.2 _).mono ?_; rintro e w' ⟨rfl, hw⟩; obtain rfl := hw.symm)
 generalize Lib.bytesWorld w 5 s = w1 at HK0 HB0 ⊢
 obtain ⟨cap, hcap⟩ : ∃ c, grownCap w s.size 0 5 = c := ⟨_, rfl⟩
 rw [hcap] at HK0 ⊢
 clear hcap kc
 go_loopw [8, 18] (fun v i wr => ∃ (k : Nat) (p : ByteArray), k ≤ s.size ∧ v = .string p ∧ i = .int .i64 k ∧ OwnM wr w.heap.size 5 (.slice (some ⟨w.heap.size, 0, none⟩) s.size cap) (tt key nonce s k) ∧ (k % 64 = 0 ∨ p = blk key nonce (bno k)) ∧ Below w.heap.size w wr) (fun _ i _ => s.size - (intOf i).toNat)
 case atStart => exact ⟨0, _, by omega, rfl, rfl, HK0.out, .inl rfl, HB0.out⟩
 case round =>
  clear HK0 HB0
  obtain ⟨k, p, hk, rfl, rfl, ho, hd, hb⟩ := hrel
  have HO := zM ho; have HB := zM hb; have HD := zM hd
  clear ho hb hd
  by_cases hlt : k < s.size
  ·have q0 : decide ((k : Int) < (s.size : Int)) = true := decide_eq_true (by omega)
   have q1 : (0 : Int) ≤ k := by omega
   have m1 : Int.tmod (k : Int) 64 = (k : Int) % 64 := tm (by omega)
   have q2 : (k : Int) < (s.size : Int) := by omega
   obtain ⟨P, hP⟩ : ∃ P, blk key nonce (bno k) = P := ⟨_, rfl⟩
   have HPS := zM (show P.size = 64 by rw [← hP]; exact blk_size _ _ _)
   have HP := zM hP
   clear hP
   by_cases h64 : k % 64 = 0
   ·have c1 : ((k : Int) % 64 == 0) = true := by rw [beq_iff_eq]; omega
    have d1 : Int.tdiv (k : Int) 64 = (k : Int) / 64 := td (by omega)
    have CB := zM (fun W : World => block_calls key nonce (bno k) HKN.out.1 HKN.out.2 W)
    rw [HP.out, show bno k = (k : Int) / 64 % 4294967296 by unfold bno; omega] at CB
    go_wp2_with (go_at_call 61; with_reducible refine (CB.out _).mono ?_; rintro e w7 ⟨rfl, hb⟩; have n0 := zM (HO.out.below hb); have n1 := zM (below_step HB.out hb); clear HO HB hb; have HO := n0; have HB := n1; clear n0 n1)
    have hcb : w7.cell? ⟨w.heap.size, k, none⟩ = some (.int .u8 (bt s k)) := by rw [← tt_high key nonce s k k (Nat.le_refl _)]; exact HO.out.cell k (by rw [tt_length]; exact hlt)
    have hfb := HO.out.frozen k (by rw [tt_length]; exact hlt)
    have z0 : (0 ≤ (k : Int) % 64) = True := eq_true (by omega)
    have z1 : ((k : Int) % 64 < (P.size : Int)) = True := eq_true (by rw [HPS.out]; omega)
    have hx := bt_at P ((k : Int) % 64)
    go_wp2
    go_region
    have e1 : tt key nonce s (k + 1) = (tt key nonce s k).set k (Go.bits .xor .u8 (bt s k) (bt P ((k : Int) % 64))) := by
     rw [tt, tb, HP.out, show ((k % 64 : Nat) : Int) = (k : Int) % 64 by omega]
    have n0 := zM ((HO.out.set k (Go.bits .xor .u8 (bt s k) (bt P ((k : Int) % 64)))).drew)
    rw [← e1] at n0
    have n1 := zM (below_drew1 (below_set (j := k) (v := .int .u8 (Go.bits .xor .u8 (bt s k) (bt P ((k : Int) % 64)))) HB.out (Nat.le_refl w.heap.size)))
    clear e1 hcb hfb hx
    generalize (w7.setCell ⟨w.heap.size, k, none⟩ (.int .u8 (Go.bits .xor .u8 (bt s k) (bt P ((k : Int) % 64))))).drew = W9 at n0 n1 ⊢
    go_wp2
    go_roundw
    case rel => exact ⟨k + 1, P, by omega, rfl, by go_num, n0.out, by rw [← HP.out]; exact bno_step key nonce k, n1.out⟩
    case measure => simp [intOf]; omega
   ·have c1 : ((k : Int) % 64 == 0) = false := by rw [beq_eq_false_iff_ne]; omega
    have hpP : p = P := by
     rcases HD.out with h | h
     ·exact absurd h h64
     ·rw [h, HP.out]
    subst hpP
    have hcb : wr.cell? ⟨w.heap.size, k, none⟩ = some (.int .u8 (bt s k)) := by rw [← tt_high key nonce s k k (Nat.le_refl _)]; exact HO.out.cell k (by rw [tt_length]; exact hlt)
    have hfb := HO.out.frozen k (by rw [tt_length]; exact hlt)
    have z0 : (0 ≤ (k : Int) % 64) = True := eq_true (by omega)
    have z1 : ((k : Int) % 64 < (p.size : Int)) = True := eq_true (by rw [HPS.out]; omega)
    have hx := bt_at p ((k : Int) % 64)
    go_wp2
    go_region
    have e1 : tt key nonce s (k + 1) = (tt key nonce s k).set k (Go.bits .xor .u8 (bt s k) (bt p ((k : Int) % 64))) := by
     rw [tt, tb, HP.out, show ((k % 64 : Nat) : Int) = (k : Int) % 64 by omega]
    have n0 := zM ((HO.out.set k (Go.bits .xor .u8 (bt s k) (bt p ((k : Int) % 64)))).drew)
    rw [← e1] at n0
    have n1 := zM (below_drew1 (below_set (j := k) (v := .int .u8 (Go.bits .xor .u8 (bt s k) (bt p ((k : Int) % 64)))) HB.out (Nat.le_refl w.heap.size)))
    clear e1 hcb hfb hx
    generalize (wr.setCell ⟨w.heap.size, k, none⟩ (.int .u8 (Go.bits .xor .u8 (bt s k) (bt p ((k : Int) % 64))))).drew = W9 at n0 n1 ⊢
    go_wp2
    go_roundw
    case rel => exact ⟨k + 1, p, by omega, rfl, by go_num, n0.out, by rw [← HP.out]; exact bno_step key nonce k, n1.out⟩
    case measure => simp [intOf]; omega
  ·have ek : k = s.size := by omega
   subst ek
   have q0 : decide ((s.size : Int) < (s.size : Int)) = false := decide_eq_false (by omega)
   have hr := HO.out.reads (tt_length key nonce s s.size).symm (by omega)
   have hv := string_of_reads (P := Tryd.prog) Tryd.underlying34 Tryd.underlying5 Tryd.underlying9 hr (c := cap)
   clear hr
   obtain ⟨R, hR⟩ : ∃ R, strOfNums (tt key nonce s s.size) = R := ⟨_, rfl⟩
   rw [hR] at hv
   have HRR := zM (show turned key nonce s = R from hR)
   clear hR
   go_wp2
   go_ret
   exact ⟨by rw [HRR.out]; rfl, HB.out⟩
end Go.Proofs.YtgbhjkkfleeodaaDoor.Cha
namespace Go.Proofs.YtgbhjkkfleeodaaDoor.Cha
open Go.RowKit Go.Proofs.YtgbhjkkfleeodaaDoorW.PrintWords Go.Proofs.YtgbhjkkfleeodaaDoorW.PrintMore Go.Proofs.YtgbhjkkfleeodaaDoor.XU Go.Proofs.YtgbhjkkfleeodaaDoor.XB
open Go.Proofs.YtgbhjkkfleeodaaDoorW.PrintWords.Aside0 renaming mk → zM
open List renaming setIfInBounds_toArray → zT, set_cons_zero → zZ, set_cons_succ → zU
theorem xor8 {a b : Int} (ha : 0 ≤ a ∧ a ≤ 255) (hb : 0 ≤ b ∧ b ≤ 255) : (0 ≤ Go.bits .xor .u8 a b ∧ Go.bits .xor .u8 a b ≤ 255) ∧ Go.bits .xor .u8 (Go.bits .xor .u8 a b) b = a := by
 obtain ⟨x, rfl⟩ : ∃ n : Nat, a = n := ⟨a.toNat, by omega⟩
 obtain ⟨y, rfl⟩ : ∃ n : Nat, b = n := ⟨b.toNat, by omega⟩
 have hx : x < 2 ^ 8 := by omega
 have hy : y < 2 ^ 8 := by omega
 have hz : x ^^^ y < 2 ^ 8 := Nat.xor_lt_two_pow hx hy
 obtain ⟨_, _, h1⟩ := bits_u .u8 _ _ x y rfl rfl (by simpa [IntKind.bits] using hx) (by simpa [IntKind.bits] using hy) rfl
 rw [h1]
 obtain ⟨_, _, h2⟩ := bits_u .u8 _ _ (x ^^^ y) y rfl rfl (by simpa [IntKind.bits] using hz) (by simpa [IntKind.bits] using hy) rfl
 rw [h2, Nat.xor_assoc, Nat.xor_self, Nat.xor_zero]
 exact ⟨by omega, rfl⟩
theorem tb_range (key nonce s : ByteArray) (j : Nat) : 0 ≤ tb key nonce s j ∧ tb key nonce s j ≤ 255 := (xor8 (bt_range _ _) (bt_range _ _)).1
theorem tt_low (key nonce s : ByteArray) (k : Nat) : ∀ j, j < k → k ≤ s.size → (tt key nonce s k).getD j 0 = tb key nonce s j := by
 induction k with
 | zero => intro j h; omega
 | succ k ih =>
  intro j h hk
  rw [tt, List.getD_eq_getElem?_getD]
  by_cases e : j = k
  ·subst e
   rw [List.getElem?_set_self (by rw [tt_length]; omega)]; rfl
  ·rw [List.getElem?_set_ne (by omega), ← List.getD_eq_getElem?_getD]
   exact ih j (by omega) (by omega)
def tl (key nonce s : ByteArray) (n : Nat) : List Int := (List.range n).map (tb key nonce s)
theorem tl_length (key nonce s : ByteArray) (n : Nat) : (tl key nonce s n).length = n := by simp [tl]
theorem tl_succ (key nonce s : ByteArray) (n : Nat) : tl key nonce s (n + 1) = tl key nonce s n ++ [tb key nonce s n] := by simp [tl, List.range_succ]
theorem tt_full (key nonce s : ByteArray) : tt key nonce s s.size = tl key nonce s s.size := by
 apply List.ext_getElem
 ·rw [tt_length, tl_length]
 ·intro i h1 h2
  have h3 := h1
  rw [tt_length] at h3
  have h := tt_low key nonce s s.size i h3 (Nat.le_refl _)
  rw [List.getD_eq_getElem?_getD, List.getElem?_eq_getElem h1] at h
  rw [show (tt key nonce s s.size)[i] = tb key nonce s i from h]
  simp [tl]
theorem turned_tl (key nonce s : ByteArray) : turned key nonce s = strOfNums (tl key nonce s s.size) := by rw [turned, tt_full]
theorem turned_size (key nonce s : ByteArray) : (turned key nonce s).size = s.size := by rw [turned_tl, strOfNums_size, tl_length]
theorem bt_str (l : List Int) (hl : ∀ x ∈ l, 0 ≤ x ∧ x ≤ 255) (j : Nat) : bt (strOfNums l) j = l.getD j 0 := by
 rw [bt_nat, show bytesOf (strOfNums l) = l from ?_]
 unfold bytesOf
 rw [strOfNums_data, List.map_map]
 conv => rhs; rw [← List.map_id l]
 apply List.map_congr_left
 intro x hx
 have := hl x hx
 simp
 omega
theorem bt_turned (key nonce s : ByteArray) (j : Nat) (hj : j < s.size) : bt (turned key nonce s) j = tb key nonce s j := by
 rw [turned_tl, bt_str]
 ·simp [tl, List.getD_eq_getElem?_getD, hj]
 ·intro x hx
  simp only [tl, List.mem_map] at hx
  obtain ⟨i, _, rfl⟩ := hx
  exact tb_range _ _ _ _
theorem turned_twice (key nonce s : ByteArray) : turned key nonce (turned key nonce s) = s := by
 rw [turned_tl, turned_size]
 have e : tl key nonce (turned key nonce s) s.size = bytesOf s := by
  apply List.ext_getElem
  ·rw [tl_length, bytesOf_length]
  ·intro i h1 h2
   rw [tl_length] at h1
   have : tb key nonce (turned key nonce s) i = bt s i := by
    rw [tb, bt_turned key nonce s i h1]
    exact (xor8 (bt_range s i) (bt_range _ _)).2
   simp only [tl, List.getElem_map, List.getElem_range]
   rw [this, bt_nat, List.getD_eq_getElem?_getD, List.getElem?_eq_getElem h2]; rfl
 rw [e, strOfNums_bytesOf]
end Go.Proofs.YtgbhjkkfleeodaaDoor.Cha
