/- The code's quarter: four words of an array in memory are mixed. -/
import Derived.Test.YtfomeaejhljahaaXA
import Derived.Test.YtfomeaejhljahaaXI
import Derived.RegionTactic
import Derived.BigRegion
import Derived.Deep.RegionHeld3
namespace Go.Proofs.Ytfomeaejhljahaa.Cha
open Go.RowKit Go.Proofs.YtfomeaejhljahaaW.PrintWords Go.Proofs.YtfomeaejhljahaaW.PrintLast Go.Proofs.YtfomeaejhljahaaW.PrintMore Go.Proofs.Ytfomeaejhljahaa.XA
set_option linter.unusedVariables false
set_option linter.unusedSimpArgs false
/-- x[p] += x[q] -/
def qa (xs : List Int) (p q : Nat) : List Int := xs.set p ((xs.getD p 0 + xs.getD q 0) % 4294967296)
def rl (n : Int) (k : Nat) : Int := Go.bits .or .u32 (n * 2 ^ k % 4294967296) (n / 2 ^ (32 - k))
/-- x[p] = RotateLeft32(x[p]^x[q], k) -/
def qx (xs : List Int) (p q k : Nat) : List Int := xs.set p (rl (Go.bits .xor .u32 (xs.getD p 0) (xs.getD q 0)) k)
theorem qa_length (xs : List Int) (p q : Nat) : (qa xs p q).length = xs.length := List.length_set
theorem qx_length (xs : List Int) (p q k : Nat) : (qx xs p q k).length = xs.length := List.length_set
def q4 (xs : List Int) (a b c d : Nat) : List Int := qx (qa (qx (qa (qx (qa (qx (qa xs a b) d a 16) c d) b c 12) a b) d a 8) c d) b c 7
theorem q4_length (xs : List Int) (a b c d : Nat) : (q4 xs a b c d).length = xs.length := by simp only [q4, qa_length, qx_length]
theorem rl_16 (n : Int) (w : World) : Calls Try.prog 19 #[.int .u32 n, .int .i64 16] w fun e w'' => e = .returned (.int .u32 (rl n 16)) ∧ ∃ m, w'' = w.drewN m := by
  have hb : Go.bits .and .u64 16 31 = 16 := by decide
  go_enter Try.func19, Try.ntmps19
  go_wp2
  go_ret
  exact ⟨rfl, 0, rfl⟩
theorem rl_12 (n : Int) (w : World) : Calls Try.prog 19 #[.int .u32 n, .int .i64 12] w fun e w'' => e = .returned (.int .u32 (rl n 12)) ∧ ∃ m, w'' = w.drewN m := by
  have hb : Go.bits .and .u64 12 31 = 12 := by decide
  go_enter Try.func19, Try.ntmps19
  go_wp2
  go_ret
  exact ⟨rfl, 0, rfl⟩
theorem rl_8 (n : Int) (w : World) : Calls Try.prog 19 #[.int .u32 n, .int .i64 8] w fun e w'' => e = .returned (.int .u32 (rl n 8)) ∧ ∃ m, w'' = w.drewN m := by
  have hb : Go.bits .and .u64 8 31 = 8 := by decide
  go_enter Try.func19, Try.ntmps19
  go_wp2
  go_ret
  exact ⟨rfl, 0, rfl⟩
theorem rl_7 (n : Int) (w : World) : Calls Try.prog 19 #[.int .u32 n, .int .i64 7] w fun e w'' => e = .returned (.int .u32 (rl n 7)) ∧ ∃ m, w'' = w.drewN m := by
  have hb : Go.bits .and .u64 7 31 = 7 := by decide
  go_enter Try.func19, Try.ntmps19
  go_wp2
  go_ret
  exact ⟨rfl, 0, rfl⟩
theorem SetBlk.refl' (w : World) (g : Nat) : SetBlk w w g := ⟨rfl, rfl, rfl, rfl, fun _ _ => rfl⟩
theorem SetBlk.put {w w1 : World} {g : Nat} (h : SetBlk w w1 g) (i : Nat) (v : Value) : SetBlk w (w1.setCell ⟨g, i, none⟩ v) g :=
  ⟨h.os, h.tape, h.output, by rw [← h.size]; simp, fun k hk => (Below.heap_setCell w1 ⟨g, i, none⟩ v k hk).trans (h.other k hk)⟩
theorem SetBlk.drew1 {w w1 : World} {g : Nat} (h : SetBlk w w1 g) : SetBlk w w1.drew g := ⟨h.os, h.tape, h.output, h.size, h.other⟩
theorem SetBlk.drewN' {w w1 : World} {g : Nat} (h : SetBlk w w1 g) (n : Nat) : SetBlk w (w1.drewN n) g := ⟨h.os, h.tape, h.output, h.size, h.other⟩
set_option maxHeartbeats 8000000 in
set_option maxRecDepth 100000 in
theorem quarter_calls (g a b c d : Nat) (ha : a < 16) (hb : b < 16) (hc : c < 16) (hd : d < 16) (xs : List Int) (hl : xs.length = 16) (w : World) (hX : IsArr w g 31 .u32 xs) :
    Calls Try.prog 15 #[.pointer (some ⟨g, 0, none⟩), .int .i64 a, .int .i64 b, .int .i64 c, .int .i64 d] w fun e w' => e = .returned (.tuple #[]) ∧ IsArr w' g 31 .u32 (q4 xs a b c d) ∧ SetBlk w w' g := by
  have a0 : (0 : Int) ≤ a := by omega
  have a1 : (a : Int) < 16 := by omega
  have b0 : (0 : Int) ≤ b := by omega
  have b1 : (b : Int) < 16 := by omega
  have c0 : (0 : Int) ≤ c := by omega
  have c1 : (c : Int) < 16 := by omega
  have d0 : (0 : Int) ≤ d := by omega
  have d1 : (d : Int) < 16 := by omega
  have HX := Aside0.mk hX
  have HS := Aside0.mk (SetBlk.refl' w g)
  have HL := Aside0.mk hl
  clear hX hl
  go_enter Try.func15, Try.ntmps15
  obtain ⟨vp, hvp⟩ : ∃ v, xs.getD a 0 = v := ⟨_, rfl⟩
  obtain ⟨vq, hvq⟩ : ∃ v, xs.getD b 0 = v := ⟨_, rfl⟩
  have hcp : w.cell? ⟨g, a, none⟩ = some (.int .u32 vp) := by rw [← hvp]; exact HX.out.cell a (by rw [HL.out]; omega)
  have hcq : w.cell? ⟨g, b, none⟩ = some (.int .u32 vq) := by rw [← hvq]; exact HX.out.cell b (by rw [HL.out]; omega)
  have hfp := HX.out.frozen a
  have HV := Aside0.mk (And.intro hvp hvq)
  clear hvp hvq
  go_wp2
  go_region
  have n0 : IsArr (w.setCell ⟨g, a, none⟩ (.int .u32 ((vp + vq) % 4294967296))).drew g 31 .u32 (qa xs a b) := by
    have h := IsArr.set HX.out a ((vp + vq) % 4294967296)
    rw [← HV.out.1, ← HV.out.2] at h ⊢
    exact h.drew
  have n1 := SetBlk.drew1 (SetBlk.put HS.out a (.int .u32 ((vp + vq) % 4294967296)))
  generalize (w.setCell ⟨g, a, none⟩ (.int .u32 ((vp + vq) % 4294967296))).drew = W0 at n0 n1 ⊢
  obtain ⟨y0, hy⟩ : ∃ y, qa xs a b = y := ⟨_, rfl⟩
  rw [hy] at n0
  have n2 := Aside0.mk (show y0.length = 16 by rw [← hy, qa_length]; exact HL.out)
  have HY0 := Aside0.mk hy
  have n3 := Aside0.mk n0
  have n4 := Aside0.mk n1
  clear n0 n1 hcp hcq hfp HX HS HL HV hy
  have HX := n3
  have HS := n4
  have HL := n2
  clear n2 n3 n4
  obtain ⟨vp, hvp⟩ : ∃ v, y0.getD d 0 = v := ⟨_, rfl⟩
  obtain ⟨vq, hvq⟩ : ∃ v, y0.getD a 0 = v := ⟨_, rfl⟩
  have hcp : W0.cell? ⟨g, d, none⟩ = some (.int .u32 vp) := by rw [← hvp]; exact HX.out.cell d (by rw [HL.out]; omega)
  have hcq : W0.cell? ⟨g, a, none⟩ = some (.int .u32 vq) := by rw [← hvq]; exact HX.out.cell a (by rw [HL.out]; omega)
  have hfp := HX.out.frozen d
  have HV := Aside0.mk (And.intro hvp hvq)
  clear hvp hvq
  go_wp2
  refine start_ (n := 17) (S := fun w' => w'.cell? ⟨g, d, none⟩ = some (.int .u32 vp) ∧ w'.cell? ⟨g, a, none⟩ = some (.int .u32 vq)) (ds := [16]) #[false, false, false, false, false, false, false, false, false, false, false, false, false, false, false, false, false] (by kernel_rfl) rfl rfl ⟨hcp, hcq⟩ (fun hHeld => ?_)
  refine pure_ (i := 0) (N := some 23) (v := ?_) (a' := ?_) #[true, false, false, false, false, false, false, false, false, false, false, false, false, false, false, false, false] rfl rfl (by kernel_rfl) (fun _ _ _ h => h) (Or.inl ⟨by rfl, ?_⟩) ?_ ?_
  rotate_left
  · intro w'
    go_simp
    with_reducible rfl
  rotate_left
  · simp only [Act.put, List.setIfInBounds_toArray, List.set_cons_zero, List.set_cons_succ, i64_w, i32_w]
    rfl
  refine pure_ (i := 1) (N := some 24) (v := ?_) (a' := ?_) #[true, true, false, false, false, false, false, false, false, false, false, false, false, false, false, false, false] rfl rfl (by kernel_rfl) (fun _ _ _ h => h) (Or.inl ⟨by rfl, ?_⟩) ?_ ?_
  rotate_left
  · intro w'
    go_simp
    with_reducible rfl
  rotate_left
  · simp only [Act.put, List.setIfInBounds_toArray, List.set_cons_zero, List.set_cons_succ, i64_w, i32_w]
    rfl
  refine pure_ (i := 2) (N := some 25) (v := ?_) (a' := ?_) #[true, true, true, false, false, false, false, false, false, false, false, false, false, false, false, false, false] rfl rfl (by kernel_rfl) (fun _ _ _ h => h) (Or.inl ⟨by rfl, ?_⟩) ?_ ?_
  rotate_left
  · intro w'
    go_simp
    with_reducible rfl
  rotate_left
  · simp only [Act.put, List.setIfInBounds_toArray, List.set_cons_zero, List.set_cons_succ, i64_w, i32_w]
    rfl
  refine pure_ (i := 3) (N := some 26) (v := ?_) (a' := ?_) #[true, true, true, true, false, false, false, false, false, false, false, false, false, false, false, false, false] rfl rfl (by kernel_rfl) (fun _ _ _ h => h) (Or.inl ⟨by rfl, ?_⟩) ?_ ?_
  rotate_left
  · intro w'
    go_simp
    with_reducible rfl
  rotate_left
  · simp only [Act.put, List.setIfInBounds_toArray, List.set_cons_zero, List.set_cons_succ, i64_w, i32_w]
    rfl
  refine pure_ (i := 4) (N := some 27) (v := ?_) (a' := ?_) #[true, true, true, true, true, false, false, false, false, false, false, false, false, false, false, false, false] rfl rfl (by kernel_rfl) (fun _ _ _ h => h) (Or.inl ⟨by rfl, ?_⟩) ?_ ?_
  rotate_left
  · intro w'
    go_simp
    with_reducible rfl
  rotate_left
  · simp only [Act.put, List.setIfInBounds_toArray, List.set_cons_zero, List.set_cons_succ, i64_w, i32_w]
    rfl
  refine pure_ (i := 5) (N := some 28) (v := ?_) (a' := ?_) #[true, true, true, true, true, true, false, false, false, false, false, false, false, false, false, false, false] rfl rfl (by kernel_rfl) (fun _ _ _ h => h) (Or.inl ⟨by rfl, ?_⟩) ?_ ?_
  rotate_left
  · intro w'
    go_simp
    with_reducible rfl
  rotate_left
  · simp only [Act.put, List.setIfInBounds_toArray, List.set_cons_zero, List.set_cons_succ, i64_w, i32_w]
    rfl
  refine pure_ (i := 7) (N := some 30) (v := ?_) (a' := ?_) #[true, true, true, true, true, true, false, true, false, false, false, false, false, false, false, false, false] rfl rfl (by kernel_rfl) (fun _ _ _ h => h) (Or.inl ⟨by rfl, ?_⟩) ?_ ?_
  rotate_left
  · intro w'
    go_simp
    with_reducible rfl
  rotate_left
  · simp only [Act.put, List.setIfInBounds_toArray, List.set_cons_zero, List.set_cons_succ, i64_w, i32_w]
    rfl
  refine pure_ (i := 8) (N := some 31) (v := ?_) (a' := ?_) #[true, true, true, true, true, true, false, true, true, false, false, false, false, false, false, false, false] rfl rfl (by kernel_rfl) (fun _ _ _ h => h) (Or.inl ⟨by rfl, ?_⟩) ?_ ?_
  rotate_left
  · intro w'
    go_simp
    with_reducible rfl
  rotate_left
  · simp only [Act.put, List.setIfInBounds_toArray, List.set_cons_zero, List.set_cons_succ, i64_w, i32_w]
    rfl
  refine pure_ (i := 9) (N := some 32) (v := ?_) (a' := ?_) #[true, true, true, true, true, true, false, true, true, true, false, false, false, false, false, false, false] rfl rfl (by kernel_rfl) (fun _ _ _ h => h) (Or.inl ⟨by rfl, ?_⟩) ?_ ?_
  rotate_left
  · intro w'
    go_simp
    with_reducible rfl
  rotate_left
  · simp only [Act.put, List.setIfInBounds_toArray, List.set_cons_zero, List.set_cons_succ, i64_w, i32_w]
    rfl
  refine pure_ (i := 10) (N := some 33) (v := ?_) (a' := ?_) #[true, true, true, true, true, true, false, true, true, true, true, false, false, false, false, false, false] rfl rfl (by kernel_rfl) (fun _ _ _ h => h) (Or.inl ⟨by rfl, ?_⟩) ?_ ?_
  rotate_left
  · intro w'
    go_simp
    with_reducible rfl
  rotate_left
  · simp only [Act.put, List.setIfInBounds_toArray, List.set_cons_zero, List.set_cons_succ, i64_w, i32_w]
    rfl
  refine pure_ (i := 14) (N := some 37) (v := ?_) (a' := ?_) #[true, true, true, true, true, true, false, true, true, true, true, false, false, false, true, false, false] rfl rfl (by kernel_rfl) (fun _ _ _ h => h) (Or.inl ⟨by rfl, ?_⟩) ?_ ?_
  rotate_left
  · intro w'
    go_simp
    with_reducible rfl
  rotate_left
  · simp only [Act.put, List.setIfInBounds_toArray, List.set_cons_zero, List.set_cons_succ, i64_w, i32_w]
    rfl
  refine take_ (i := 6) (N := some 29) (v := ?_) (a' := ?_) #[true, true, true, true, true, true, true, true, true, true, true, false, false, false, true, false, false] rfl rfl (by kernel_rfl) (fun _ _ _ h => h) (Or.inl ⟨by rfl, ?_⟩) hHeld ?_ ?_
  rotate_left
  · rintro w' ⟨s0, s1⟩
    go_simp
    with_reducible rfl
  rotate_left
  · simp only [Act.put, List.setIfInBounds_toArray, List.set_cons_zero, List.set_cons_succ, i64_w, i32_w]
    rfl
  refine take_ (i := 11) (N := some 34) (v := ?_) (a' := ?_) #[true, true, true, true, true, true, true, true, true, true, true, true, false, false, true, false, false] rfl rfl (by kernel_rfl) (fun _ _ _ h => h) (Or.inl ⟨by rfl, ?_⟩) hHeld ?_ ?_
  rotate_left
  · rintro w' ⟨s0, s1⟩
    go_simp
    with_reducible rfl
  rotate_left
  · simp only [Act.put, List.setIfInBounds_toArray, List.set_cons_zero, List.set_cons_succ, i64_w, i32_w]
    rfl
  refine pure_ (i := 12) (N := some 35) (v := ?_) (a' := ?_) #[true, true, true, true, true, true, true, true, true, true, true, true, true, false, true, false, false] rfl rfl (by kernel_rfl) (fun _ _ _ h => h) (Or.inl ⟨by rfl, ?_⟩) ?_ ?_
  rotate_left
  · intro w'
    go_simp
    with_reducible rfl
  rotate_left
  · simp only [Act.put, List.setIfInBounds_toArray, List.set_cons_zero, List.set_cons_succ, i64_w, i32_w]
    rfl
  refine one_ (i := 13) (N := some 36) #[true, true, true, true, true, true, true, true, true, true, true, true, true, true, true, false, false] rfl rfl (by kernel_rfl) (by decide) (fun K hK => ?_)
  refine goes_ Try.func19 (by kernel_rfl) rfl #[.int .u32 (Go.bits .xor .u32 vp vq), .int .i64 16] (by rfl) rfl rfl (by simp only [List.map_toArray, List.map_cons, List.map_nil]; rfl) ?_
  with_reducible refine (rl_16 _ _).mono ?_
  rintro e w1 ⟨rfl, m, rfl⟩
  refine ⟨_, rfl, ?_⟩
  refine hK.out _ _ ⟨hHeld.1, hHeld.2⟩ (fun hHeld => ?_)
  clear hK K
  refine norm_ (a' := ?_) ?_ ?_
  rotate_left
  · show Act.put _ (some 36) _ = _
    simp only [Act.put, List.setIfInBounds_toArray, List.set_cons_zero, List.set_cons_succ, i64_w, i32_w]
    rfl
  refine pure_ (i := 15) (N := some 38) (v := ?_) (a' := ?_) #[true, true, true, true, true, true, true, true, true, true, true, true, true, true, true, true, false] rfl rfl (by kernel_rfl) (fun _ _ _ h => h) (Or.inl ⟨by rfl, ?_⟩) ?_ ?_
  rotate_left
  · intro w'
    go_simp
    with_reducible rfl
  rotate_left
  · simp only [Act.put, List.setIfInBounds_toArray, List.set_cons_zero, List.set_cons_succ, i64_w, i32_w]
    rfl
  refine last_ (i := 16) (N := none) #[true, true, true, true, true, true, true, true, true, true, true, true, true, true, true, true, true] rfl rfl (by kernel_rfl) (by decide) (fun K hK => ?_)
  refine skip_ (w1 := ?_) (by rfl) rfl ?_ ?_
  rotate_left
  · go_simp
    rfl
  refine hK.out _ _ ?_
  clear hK K
  refine done_ (by kernel_rfl) ?_

  have n0 : IsArr ((W0.drewN (1 + m)).setCell ⟨g, d, none⟩ (.int .u32 (rl (Go.bits .xor .u32 vp vq) 16))) g 31 .u32 (qx y0 d a 16) := by
    have h := IsArr.set (HX.out.drewN (1 + m)) d (rl (Go.bits .xor .u32 vp vq) 16)
    rw [← HV.out.1, ← HV.out.2] at h ⊢
    exact h
  have n1 := SetBlk.put (SetBlk.drewN' HS.out (1 + m)) d (.int .u32 (rl (Go.bits .xor .u32 vp vq) 16))
  generalize ((W0.drewN (1 + m)).setCell ⟨g, d, none⟩ (.int .u32 (rl (Go.bits .xor .u32 vp vq) 16))) = W1 at n0 n1 ⊢
  obtain ⟨y1, hy⟩ : ∃ y, qx y0 d a 16 = y := ⟨_, rfl⟩
  rw [hy] at n0
  have n2 := Aside0.mk (show y1.length = 16 by rw [← hy, qx_length]; exact HL.out)
  have HY1 := Aside0.mk hy
  have n3 := Aside0.mk n0
  have n4 := Aside0.mk n1
  clear n0 n1 hcp hcq hfp HX HS HL HV hy
  have HX := n3
  have HS := n4
  have HL := n2
  clear n2 n3 n4
  obtain ⟨vp, hvp⟩ : ∃ v, y1.getD c 0 = v := ⟨_, rfl⟩
  obtain ⟨vq, hvq⟩ : ∃ v, y1.getD d 0 = v := ⟨_, rfl⟩
  have hcp : W1.cell? ⟨g, c, none⟩ = some (.int .u32 vp) := by rw [← hvp]; exact HX.out.cell c (by rw [HL.out]; omega)
  have hcq : W1.cell? ⟨g, d, none⟩ = some (.int .u32 vq) := by rw [← hvq]; exact HX.out.cell d (by rw [HL.out]; omega)
  have hfp := HX.out.frozen c
  have HV := Aside0.mk (And.intro hvp hvq)
  clear hvp hvq
  go_wp2
  go_region
  have n0 : IsArr (W1.setCell ⟨g, c, none⟩ (.int .u32 ((vp + vq) % 4294967296))).drew g 31 .u32 (qa y1 c d) := by
    have h := IsArr.set HX.out c ((vp + vq) % 4294967296)
    rw [← HV.out.1, ← HV.out.2] at h ⊢
    exact h.drew
  have n1 := SetBlk.drew1 (SetBlk.put HS.out c (.int .u32 ((vp + vq) % 4294967296)))
  generalize (W1.setCell ⟨g, c, none⟩ (.int .u32 ((vp + vq) % 4294967296))).drew = W2 at n0 n1 ⊢
  obtain ⟨y2, hy⟩ : ∃ y, qa y1 c d = y := ⟨_, rfl⟩
  rw [hy] at n0
  have n2 := Aside0.mk (show y2.length = 16 by rw [← hy, qa_length]; exact HL.out)
  have HY2 := Aside0.mk hy
  have n3 := Aside0.mk n0
  have n4 := Aside0.mk n1
  clear n0 n1 hcp hcq hfp HX HS HL HV hy
  have HX := n3
  have HS := n4
  have HL := n2
  clear n2 n3 n4
  obtain ⟨vp, hvp⟩ : ∃ v, y2.getD b 0 = v := ⟨_, rfl⟩
  obtain ⟨vq, hvq⟩ : ∃ v, y2.getD c 0 = v := ⟨_, rfl⟩
  have hcp : W2.cell? ⟨g, b, none⟩ = some (.int .u32 vp) := by rw [← hvp]; exact HX.out.cell b (by rw [HL.out]; omega)
  have hcq : W2.cell? ⟨g, c, none⟩ = some (.int .u32 vq) := by rw [← hvq]; exact HX.out.cell c (by rw [HL.out]; omega)
  have hfp := HX.out.frozen b
  have HV := Aside0.mk (And.intro hvp hvq)
  clear hvp hvq
  go_wp2
  refine start_ (n := 17) (S := fun w' => w'.cell? ⟨g, b, none⟩ = some (.int .u32 vp) ∧ w'.cell? ⟨g, c, none⟩ = some (.int .u32 vq)) (ds := [16]) #[false, false, false, false, false, false, false, false, false, false, false, false, false, false, false, false, false] (by kernel_rfl) rfl rfl ⟨hcp, hcq⟩ (fun hHeld => ?_)
  refine pure_ (i := 0) (N := some 52) (v := ?_) (a' := ?_) #[true, false, false, false, false, false, false, false, false, false, false, false, false, false, false, false, false] rfl rfl (by kernel_rfl) (fun _ _ _ h => h) (Or.inl ⟨by rfl, ?_⟩) ?_ ?_
  rotate_left
  · intro w'
    go_simp
    with_reducible rfl
  rotate_left
  · simp only [Act.put, List.setIfInBounds_toArray, List.set_cons_zero, List.set_cons_succ, i64_w, i32_w]
    rfl
  refine pure_ (i := 1) (N := some 53) (v := ?_) (a' := ?_) #[true, true, false, false, false, false, false, false, false, false, false, false, false, false, false, false, false] rfl rfl (by kernel_rfl) (fun _ _ _ h => h) (Or.inl ⟨by rfl, ?_⟩) ?_ ?_
  rotate_left
  · intro w'
    go_simp
    with_reducible rfl
  rotate_left
  · simp only [Act.put, List.setIfInBounds_toArray, List.set_cons_zero, List.set_cons_succ, i64_w, i32_w]
    rfl
  refine pure_ (i := 2) (N := some 54) (v := ?_) (a' := ?_) #[true, true, true, false, false, false, false, false, false, false, false, false, false, false, false, false, false] rfl rfl (by kernel_rfl) (fun _ _ _ h => h) (Or.inl ⟨by rfl, ?_⟩) ?_ ?_
  rotate_left
  · intro w'
    go_simp
    with_reducible rfl
  rotate_left
  · simp only [Act.put, List.setIfInBounds_toArray, List.set_cons_zero, List.set_cons_succ, i64_w, i32_w]
    rfl
  refine pure_ (i := 3) (N := some 55) (v := ?_) (a' := ?_) #[true, true, true, true, false, false, false, false, false, false, false, false, false, false, false, false, false] rfl rfl (by kernel_rfl) (fun _ _ _ h => h) (Or.inl ⟨by rfl, ?_⟩) ?_ ?_
  rotate_left
  · intro w'
    go_simp
    with_reducible rfl
  rotate_left
  · simp only [Act.put, List.setIfInBounds_toArray, List.set_cons_zero, List.set_cons_succ, i64_w, i32_w]
    rfl
  refine pure_ (i := 4) (N := some 56) (v := ?_) (a' := ?_) #[true, true, true, true, true, false, false, false, false, false, false, false, false, false, false, false, false] rfl rfl (by kernel_rfl) (fun _ _ _ h => h) (Or.inl ⟨by rfl, ?_⟩) ?_ ?_
  rotate_left
  · intro w'
    go_simp
    with_reducible rfl
  rotate_left
  · simp only [Act.put, List.setIfInBounds_toArray, List.set_cons_zero, List.set_cons_succ, i64_w, i32_w]
    rfl
  refine pure_ (i := 5) (N := some 57) (v := ?_) (a' := ?_) #[true, true, true, true, true, true, false, false, false, false, false, false, false, false, false, false, false] rfl rfl (by kernel_rfl) (fun _ _ _ h => h) (Or.inl ⟨by rfl, ?_⟩) ?_ ?_
  rotate_left
  · intro w'
    go_simp
    with_reducible rfl
  rotate_left
  · simp only [Act.put, List.setIfInBounds_toArray, List.set_cons_zero, List.set_cons_succ, i64_w, i32_w]
    rfl
  refine pure_ (i := 7) (N := some 59) (v := ?_) (a' := ?_) #[true, true, true, true, true, true, false, true, false, false, false, false, false, false, false, false, false] rfl rfl (by kernel_rfl) (fun _ _ _ h => h) (Or.inl ⟨by rfl, ?_⟩) ?_ ?_
  rotate_left
  · intro w'
    go_simp
    with_reducible rfl
  rotate_left
  · simp only [Act.put, List.setIfInBounds_toArray, List.set_cons_zero, List.set_cons_succ, i64_w, i32_w]
    rfl
  refine pure_ (i := 8) (N := some 60) (v := ?_) (a' := ?_) #[true, true, true, true, true, true, false, true, true, false, false, false, false, false, false, false, false] rfl rfl (by kernel_rfl) (fun _ _ _ h => h) (Or.inl ⟨by rfl, ?_⟩) ?_ ?_
  rotate_left
  · intro w'
    go_simp
    with_reducible rfl
  rotate_left
  · simp only [Act.put, List.setIfInBounds_toArray, List.set_cons_zero, List.set_cons_succ, i64_w, i32_w]
    rfl
  refine pure_ (i := 9) (N := some 61) (v := ?_) (a' := ?_) #[true, true, true, true, true, true, false, true, true, true, false, false, false, false, false, false, false] rfl rfl (by kernel_rfl) (fun _ _ _ h => h) (Or.inl ⟨by rfl, ?_⟩) ?_ ?_
  rotate_left
  · intro w'
    go_simp
    with_reducible rfl
  rotate_left
  · simp only [Act.put, List.setIfInBounds_toArray, List.set_cons_zero, List.set_cons_succ, i64_w, i32_w]
    rfl
  refine pure_ (i := 10) (N := some 62) (v := ?_) (a' := ?_) #[true, true, true, true, true, true, false, true, true, true, true, false, false, false, false, false, false] rfl rfl (by kernel_rfl) (fun _ _ _ h => h) (Or.inl ⟨by rfl, ?_⟩) ?_ ?_
  rotate_left
  · intro w'
    go_simp
    with_reducible rfl
  rotate_left
  · simp only [Act.put, List.setIfInBounds_toArray, List.set_cons_zero, List.set_cons_succ, i64_w, i32_w]
    rfl
  refine pure_ (i := 14) (N := some 66) (v := ?_) (a' := ?_) #[true, true, true, true, true, true, false, true, true, true, true, false, false, false, true, false, false] rfl rfl (by kernel_rfl) (fun _ _ _ h => h) (Or.inl ⟨by rfl, ?_⟩) ?_ ?_
  rotate_left
  · intro w'
    go_simp
    with_reducible rfl
  rotate_left
  · simp only [Act.put, List.setIfInBounds_toArray, List.set_cons_zero, List.set_cons_succ, i64_w, i32_w]
    rfl
  refine take_ (i := 6) (N := some 58) (v := ?_) (a' := ?_) #[true, true, true, true, true, true, true, true, true, true, true, false, false, false, true, false, false] rfl rfl (by kernel_rfl) (fun _ _ _ h => h) (Or.inl ⟨by rfl, ?_⟩) hHeld ?_ ?_
  rotate_left
  · rintro w' ⟨s0, s1⟩
    go_simp
    with_reducible rfl
  rotate_left
  · simp only [Act.put, List.setIfInBounds_toArray, List.set_cons_zero, List.set_cons_succ, i64_w, i32_w]
    rfl
  refine take_ (i := 11) (N := some 63) (v := ?_) (a' := ?_) #[true, true, true, true, true, true, true, true, true, true, true, true, false, false, true, false, false] rfl rfl (by kernel_rfl) (fun _ _ _ h => h) (Or.inl ⟨by rfl, ?_⟩) hHeld ?_ ?_
  rotate_left
  · rintro w' ⟨s0, s1⟩
    go_simp
    with_reducible rfl
  rotate_left
  · simp only [Act.put, List.setIfInBounds_toArray, List.set_cons_zero, List.set_cons_succ, i64_w, i32_w]
    rfl
  refine pure_ (i := 12) (N := some 64) (v := ?_) (a' := ?_) #[true, true, true, true, true, true, true, true, true, true, true, true, true, false, true, false, false] rfl rfl (by kernel_rfl) (fun _ _ _ h => h) (Or.inl ⟨by rfl, ?_⟩) ?_ ?_
  rotate_left
  · intro w'
    go_simp
    with_reducible rfl
  rotate_left
  · simp only [Act.put, List.setIfInBounds_toArray, List.set_cons_zero, List.set_cons_succ, i64_w, i32_w]
    rfl
  refine one_ (i := 13) (N := some 65) #[true, true, true, true, true, true, true, true, true, true, true, true, true, true, true, false, false] rfl rfl (by kernel_rfl) (by decide) (fun K hK => ?_)
  refine goes_ Try.func19 (by kernel_rfl) rfl #[.int .u32 (Go.bits .xor .u32 vp vq), .int .i64 12] (by rfl) rfl rfl (by simp only [List.map_toArray, List.map_cons, List.map_nil]; rfl) ?_
  with_reducible refine (rl_12 _ _).mono ?_
  rintro e w1 ⟨rfl, m, rfl⟩
  refine ⟨_, rfl, ?_⟩
  refine hK.out _ _ ⟨hHeld.1, hHeld.2⟩ (fun hHeld => ?_)
  clear hK K
  refine norm_ (a' := ?_) ?_ ?_
  rotate_left
  · show Act.put _ (some 65) _ = _
    simp only [Act.put, List.setIfInBounds_toArray, List.set_cons_zero, List.set_cons_succ, i64_w, i32_w]
    rfl
  refine pure_ (i := 15) (N := some 67) (v := ?_) (a' := ?_) #[true, true, true, true, true, true, true, true, true, true, true, true, true, true, true, true, false] rfl rfl (by kernel_rfl) (fun _ _ _ h => h) (Or.inl ⟨by rfl, ?_⟩) ?_ ?_
  rotate_left
  · intro w'
    go_simp
    with_reducible rfl
  rotate_left
  · simp only [Act.put, List.setIfInBounds_toArray, List.set_cons_zero, List.set_cons_succ, i64_w, i32_w]
    rfl
  refine last_ (i := 16) (N := none) #[true, true, true, true, true, true, true, true, true, true, true, true, true, true, true, true, true] rfl rfl (by kernel_rfl) (by decide) (fun K hK => ?_)
  refine skip_ (w1 := ?_) (by rfl) rfl ?_ ?_
  rotate_left
  · go_simp
    rfl
  refine hK.out _ _ ?_
  clear hK K
  refine done_ (by kernel_rfl) ?_

  have n0 : IsArr ((W2.drewN (1 + m)).setCell ⟨g, b, none⟩ (.int .u32 (rl (Go.bits .xor .u32 vp vq) 12))) g 31 .u32 (qx y2 b c 12) := by
    have h := IsArr.set (HX.out.drewN (1 + m)) b (rl (Go.bits .xor .u32 vp vq) 12)
    rw [← HV.out.1, ← HV.out.2] at h ⊢
    exact h
  have n1 := SetBlk.put (SetBlk.drewN' HS.out (1 + m)) b (.int .u32 (rl (Go.bits .xor .u32 vp vq) 12))
  generalize ((W2.drewN (1 + m)).setCell ⟨g, b, none⟩ (.int .u32 (rl (Go.bits .xor .u32 vp vq) 12))) = W3 at n0 n1 ⊢
  obtain ⟨y3, hy⟩ : ∃ y, qx y2 b c 12 = y := ⟨_, rfl⟩
  rw [hy] at n0
  have n2 := Aside0.mk (show y3.length = 16 by rw [← hy, qx_length]; exact HL.out)
  have HY3 := Aside0.mk hy
  have n3 := Aside0.mk n0
  have n4 := Aside0.mk n1
  clear n0 n1 hcp hcq hfp HX HS HL HV hy
  have HX := n3
  have HS := n4
  have HL := n2
  clear n2 n3 n4
  obtain ⟨vp, hvp⟩ : ∃ v, y3.getD a 0 = v := ⟨_, rfl⟩
  obtain ⟨vq, hvq⟩ : ∃ v, y3.getD b 0 = v := ⟨_, rfl⟩
  have hcp : W3.cell? ⟨g, a, none⟩ = some (.int .u32 vp) := by rw [← hvp]; exact HX.out.cell a (by rw [HL.out]; omega)
  have hcq : W3.cell? ⟨g, b, none⟩ = some (.int .u32 vq) := by rw [← hvq]; exact HX.out.cell b (by rw [HL.out]; omega)
  have hfp := HX.out.frozen a
  have HV := Aside0.mk (And.intro hvp hvq)
  clear hvp hvq
  go_wp2
  go_region
  have n0 : IsArr (W3.setCell ⟨g, a, none⟩ (.int .u32 ((vp + vq) % 4294967296))).drew g 31 .u32 (qa y3 a b) := by
    have h := IsArr.set HX.out a ((vp + vq) % 4294967296)
    rw [← HV.out.1, ← HV.out.2] at h ⊢
    exact h.drew
  have n1 := SetBlk.drew1 (SetBlk.put HS.out a (.int .u32 ((vp + vq) % 4294967296)))
  generalize (W3.setCell ⟨g, a, none⟩ (.int .u32 ((vp + vq) % 4294967296))).drew = W4 at n0 n1 ⊢
  obtain ⟨y4, hy⟩ : ∃ y, qa y3 a b = y := ⟨_, rfl⟩
  rw [hy] at n0
  have n2 := Aside0.mk (show y4.length = 16 by rw [← hy, qa_length]; exact HL.out)
  have HY4 := Aside0.mk hy
  have n3 := Aside0.mk n0
  have n4 := Aside0.mk n1
  clear n0 n1 hcp hcq hfp HX HS HL HV hy
  have HX := n3
  have HS := n4
  have HL := n2
  clear n2 n3 n4
  obtain ⟨vp, hvp⟩ : ∃ v, y4.getD d 0 = v := ⟨_, rfl⟩
  obtain ⟨vq, hvq⟩ : ∃ v, y4.getD a 0 = v := ⟨_, rfl⟩
  have hcp : W4.cell? ⟨g, d, none⟩ = some (.int .u32 vp) := by rw [← hvp]; exact HX.out.cell d (by rw [HL.out]; omega)
  have hcq : W4.cell? ⟨g, a, none⟩ = some (.int .u32 vq) := by rw [← hvq]; exact HX.out.cell a (by rw [HL.out]; omega)
  have hfp := HX.out.frozen d
  have HV := Aside0.mk (And.intro hvp hvq)
  clear hvp hvq
  go_wp2
  refine start_ (n := 17) (S := fun w' => w'.cell? ⟨g, d, none⟩ = some (.int .u32 vp) ∧ w'.cell? ⟨g, a, none⟩ = some (.int .u32 vq)) (ds := [16]) #[false, false, false, false, false, false, false, false, false, false, false, false, false, false, false, false, false] (by kernel_rfl) rfl rfl ⟨hcp, hcq⟩ (fun hHeld => ?_)
  refine pure_ (i := 0) (N := some 81) (v := ?_) (a' := ?_) #[true, false, false, false, false, false, false, false, false, false, false, false, false, false, false, false, false] rfl rfl (by kernel_rfl) (fun _ _ _ h => h) (Or.inl ⟨by rfl, ?_⟩) ?_ ?_
  rotate_left
  · intro w'
    go_simp
    with_reducible rfl
  rotate_left
  · simp only [Act.put, List.setIfInBounds_toArray, List.set_cons_zero, List.set_cons_succ, i64_w, i32_w]
    rfl
  refine pure_ (i := 1) (N := some 82) (v := ?_) (a' := ?_) #[true, true, false, false, false, false, false, false, false, false, false, false, false, false, false, false, false] rfl rfl (by kernel_rfl) (fun _ _ _ h => h) (Or.inl ⟨by rfl, ?_⟩) ?_ ?_
  rotate_left
  · intro w'
    go_simp
    with_reducible rfl
  rotate_left
  · simp only [Act.put, List.setIfInBounds_toArray, List.set_cons_zero, List.set_cons_succ, i64_w, i32_w]
    rfl
  refine pure_ (i := 2) (N := some 83) (v := ?_) (a' := ?_) #[true, true, true, false, false, false, false, false, false, false, false, false, false, false, false, false, false] rfl rfl (by kernel_rfl) (fun _ _ _ h => h) (Or.inl ⟨by rfl, ?_⟩) ?_ ?_
  rotate_left
  · intro w'
    go_simp
    with_reducible rfl
  rotate_left
  · simp only [Act.put, List.setIfInBounds_toArray, List.set_cons_zero, List.set_cons_succ, i64_w, i32_w]
    rfl
  refine pure_ (i := 3) (N := some 84) (v := ?_) (a' := ?_) #[true, true, true, true, false, false, false, false, false, false, false, false, false, false, false, false, false] rfl rfl (by kernel_rfl) (fun _ _ _ h => h) (Or.inl ⟨by rfl, ?_⟩) ?_ ?_
  rotate_left
  · intro w'
    go_simp
    with_reducible rfl
  rotate_left
  · simp only [Act.put, List.setIfInBounds_toArray, List.set_cons_zero, List.set_cons_succ, i64_w, i32_w]
    rfl
  refine pure_ (i := 4) (N := some 85) (v := ?_) (a' := ?_) #[true, true, true, true, true, false, false, false, false, false, false, false, false, false, false, false, false] rfl rfl (by kernel_rfl) (fun _ _ _ h => h) (Or.inl ⟨by rfl, ?_⟩) ?_ ?_
  rotate_left
  · intro w'
    go_simp
    with_reducible rfl
  rotate_left
  · simp only [Act.put, List.setIfInBounds_toArray, List.set_cons_zero, List.set_cons_succ, i64_w, i32_w]
    rfl
  refine pure_ (i := 5) (N := some 86) (v := ?_) (a' := ?_) #[true, true, true, true, true, true, false, false, false, false, false, false, false, false, false, false, false] rfl rfl (by kernel_rfl) (fun _ _ _ h => h) (Or.inl ⟨by rfl, ?_⟩) ?_ ?_
  rotate_left
  · intro w'
    go_simp
    with_reducible rfl
  rotate_left
  · simp only [Act.put, List.setIfInBounds_toArray, List.set_cons_zero, List.set_cons_succ, i64_w, i32_w]
    rfl
  refine pure_ (i := 7) (N := some 88) (v := ?_) (a' := ?_) #[true, true, true, true, true, true, false, true, false, false, false, false, false, false, false, false, false] rfl rfl (by kernel_rfl) (fun _ _ _ h => h) (Or.inl ⟨by rfl, ?_⟩) ?_ ?_
  rotate_left
  · intro w'
    go_simp
    with_reducible rfl
  rotate_left
  · simp only [Act.put, List.setIfInBounds_toArray, List.set_cons_zero, List.set_cons_succ, i64_w, i32_w]
    rfl
  refine pure_ (i := 8) (N := some 89) (v := ?_) (a' := ?_) #[true, true, true, true, true, true, false, true, true, false, false, false, false, false, false, false, false] rfl rfl (by kernel_rfl) (fun _ _ _ h => h) (Or.inl ⟨by rfl, ?_⟩) ?_ ?_
  rotate_left
  · intro w'
    go_simp
    with_reducible rfl
  rotate_left
  · simp only [Act.put, List.setIfInBounds_toArray, List.set_cons_zero, List.set_cons_succ, i64_w, i32_w]
    rfl
  refine pure_ (i := 9) (N := some 90) (v := ?_) (a' := ?_) #[true, true, true, true, true, true, false, true, true, true, false, false, false, false, false, false, false] rfl rfl (by kernel_rfl) (fun _ _ _ h => h) (Or.inl ⟨by rfl, ?_⟩) ?_ ?_
  rotate_left
  · intro w'
    go_simp
    with_reducible rfl
  rotate_left
  · simp only [Act.put, List.setIfInBounds_toArray, List.set_cons_zero, List.set_cons_succ, i64_w, i32_w]
    rfl
  refine pure_ (i := 10) (N := some 91) (v := ?_) (a' := ?_) #[true, true, true, true, true, true, false, true, true, true, true, false, false, false, false, false, false] rfl rfl (by kernel_rfl) (fun _ _ _ h => h) (Or.inl ⟨by rfl, ?_⟩) ?_ ?_
  rotate_left
  · intro w'
    go_simp
    with_reducible rfl
  rotate_left
  · simp only [Act.put, List.setIfInBounds_toArray, List.set_cons_zero, List.set_cons_succ, i64_w, i32_w]
    rfl
  refine pure_ (i := 14) (N := some 95) (v := ?_) (a' := ?_) #[true, true, true, true, true, true, false, true, true, true, true, false, false, false, true, false, false] rfl rfl (by kernel_rfl) (fun _ _ _ h => h) (Or.inl ⟨by rfl, ?_⟩) ?_ ?_
  rotate_left
  · intro w'
    go_simp
    with_reducible rfl
  rotate_left
  · simp only [Act.put, List.setIfInBounds_toArray, List.set_cons_zero, List.set_cons_succ, i64_w, i32_w]
    rfl
  refine take_ (i := 6) (N := some 87) (v := ?_) (a' := ?_) #[true, true, true, true, true, true, true, true, true, true, true, false, false, false, true, false, false] rfl rfl (by kernel_rfl) (fun _ _ _ h => h) (Or.inl ⟨by rfl, ?_⟩) hHeld ?_ ?_
  rotate_left
  · rintro w' ⟨s0, s1⟩
    go_simp
    with_reducible rfl
  rotate_left
  · simp only [Act.put, List.setIfInBounds_toArray, List.set_cons_zero, List.set_cons_succ, i64_w, i32_w]
    rfl
  refine take_ (i := 11) (N := some 92) (v := ?_) (a' := ?_) #[true, true, true, true, true, true, true, true, true, true, true, true, false, false, true, false, false] rfl rfl (by kernel_rfl) (fun _ _ _ h => h) (Or.inl ⟨by rfl, ?_⟩) hHeld ?_ ?_
  rotate_left
  · rintro w' ⟨s0, s1⟩
    go_simp
    with_reducible rfl
  rotate_left
  · simp only [Act.put, List.setIfInBounds_toArray, List.set_cons_zero, List.set_cons_succ, i64_w, i32_w]
    rfl
  refine pure_ (i := 12) (N := some 93) (v := ?_) (a' := ?_) #[true, true, true, true, true, true, true, true, true, true, true, true, true, false, true, false, false] rfl rfl (by kernel_rfl) (fun _ _ _ h => h) (Or.inl ⟨by rfl, ?_⟩) ?_ ?_
  rotate_left
  · intro w'
    go_simp
    with_reducible rfl
  rotate_left
  · simp only [Act.put, List.setIfInBounds_toArray, List.set_cons_zero, List.set_cons_succ, i64_w, i32_w]
    rfl
  refine one_ (i := 13) (N := some 94) #[true, true, true, true, true, true, true, true, true, true, true, true, true, true, true, false, false] rfl rfl (by kernel_rfl) (by decide) (fun K hK => ?_)
  refine goes_ Try.func19 (by kernel_rfl) rfl #[.int .u32 (Go.bits .xor .u32 vp vq), .int .i64 8] (by rfl) rfl rfl (by simp only [List.map_toArray, List.map_cons, List.map_nil]; rfl) ?_
  with_reducible refine (rl_8 _ _).mono ?_
  rintro e w1 ⟨rfl, m, rfl⟩
  refine ⟨_, rfl, ?_⟩
  refine hK.out _ _ ⟨hHeld.1, hHeld.2⟩ (fun hHeld => ?_)
  clear hK K
  refine norm_ (a' := ?_) ?_ ?_
  rotate_left
  · show Act.put _ (some 94) _ = _
    simp only [Act.put, List.setIfInBounds_toArray, List.set_cons_zero, List.set_cons_succ, i64_w, i32_w]
    rfl
  refine pure_ (i := 15) (N := some 96) (v := ?_) (a' := ?_) #[true, true, true, true, true, true, true, true, true, true, true, true, true, true, true, true, false] rfl rfl (by kernel_rfl) (fun _ _ _ h => h) (Or.inl ⟨by rfl, ?_⟩) ?_ ?_
  rotate_left
  · intro w'
    go_simp
    with_reducible rfl
  rotate_left
  · simp only [Act.put, List.setIfInBounds_toArray, List.set_cons_zero, List.set_cons_succ, i64_w, i32_w]
    rfl
  refine last_ (i := 16) (N := none) #[true, true, true, true, true, true, true, true, true, true, true, true, true, true, true, true, true] rfl rfl (by kernel_rfl) (by decide) (fun K hK => ?_)
  refine skip_ (w1 := ?_) (by rfl) rfl ?_ ?_
  rotate_left
  · go_simp
    rfl
  refine hK.out _ _ ?_
  clear hK K
  refine done_ (by kernel_rfl) ?_

  have n0 : IsArr ((W4.drewN (1 + m)).setCell ⟨g, d, none⟩ (.int .u32 (rl (Go.bits .xor .u32 vp vq) 8))) g 31 .u32 (qx y4 d a 8) := by
    have h := IsArr.set (HX.out.drewN (1 + m)) d (rl (Go.bits .xor .u32 vp vq) 8)
    rw [← HV.out.1, ← HV.out.2] at h ⊢
    exact h
  have n1 := SetBlk.put (SetBlk.drewN' HS.out (1 + m)) d (.int .u32 (rl (Go.bits .xor .u32 vp vq) 8))
  generalize ((W4.drewN (1 + m)).setCell ⟨g, d, none⟩ (.int .u32 (rl (Go.bits .xor .u32 vp vq) 8))) = W5 at n0 n1 ⊢
  obtain ⟨y5, hy⟩ : ∃ y, qx y4 d a 8 = y := ⟨_, rfl⟩
  rw [hy] at n0
  have n2 := Aside0.mk (show y5.length = 16 by rw [← hy, qx_length]; exact HL.out)
  have HY5 := Aside0.mk hy
  have n3 := Aside0.mk n0
  have n4 := Aside0.mk n1
  clear n0 n1 hcp hcq hfp HX HS HL HV hy
  have HX := n3
  have HS := n4
  have HL := n2
  clear n2 n3 n4
  obtain ⟨vp, hvp⟩ : ∃ v, y5.getD c 0 = v := ⟨_, rfl⟩
  obtain ⟨vq, hvq⟩ : ∃ v, y5.getD d 0 = v := ⟨_, rfl⟩
  have hcp : W5.cell? ⟨g, c, none⟩ = some (.int .u32 vp) := by rw [← hvp]; exact HX.out.cell c (by rw [HL.out]; omega)
  have hcq : W5.cell? ⟨g, d, none⟩ = some (.int .u32 vq) := by rw [← hvq]; exact HX.out.cell d (by rw [HL.out]; omega)
  have hfp := HX.out.frozen c
  have HV := Aside0.mk (And.intro hvp hvq)
  clear hvp hvq
  go_wp2
  go_region
  have n0 : IsArr (W5.setCell ⟨g, c, none⟩ (.int .u32 ((vp + vq) % 4294967296))).drew g 31 .u32 (qa y5 c d) := by
    have h := IsArr.set HX.out c ((vp + vq) % 4294967296)
    rw [← HV.out.1, ← HV.out.2] at h ⊢
    exact h.drew
  have n1 := SetBlk.drew1 (SetBlk.put HS.out c (.int .u32 ((vp + vq) % 4294967296)))
  generalize (W5.setCell ⟨g, c, none⟩ (.int .u32 ((vp + vq) % 4294967296))).drew = W6 at n0 n1 ⊢
  obtain ⟨y6, hy⟩ : ∃ y, qa y5 c d = y := ⟨_, rfl⟩
  rw [hy] at n0
  have n2 := Aside0.mk (show y6.length = 16 by rw [← hy, qa_length]; exact HL.out)
  have HY6 := Aside0.mk hy
  have n3 := Aside0.mk n0
  have n4 := Aside0.mk n1
  clear n0 n1 hcp hcq hfp HX HS HL HV hy
  have HX := n3
  have HS := n4
  have HL := n2
  clear n2 n3 n4
  obtain ⟨vp, hvp⟩ : ∃ v, y6.getD b 0 = v := ⟨_, rfl⟩
  obtain ⟨vq, hvq⟩ : ∃ v, y6.getD c 0 = v := ⟨_, rfl⟩
  have hcp : W6.cell? ⟨g, b, none⟩ = some (.int .u32 vp) := by rw [← hvp]; exact HX.out.cell b (by rw [HL.out]; omega)
  have hcq : W6.cell? ⟨g, c, none⟩ = some (.int .u32 vq) := by rw [← hvq]; exact HX.out.cell c (by rw [HL.out]; omega)
  have hfp := HX.out.frozen b
  have HV := Aside0.mk (And.intro hvp hvq)
  clear hvp hvq
  go_wp2
  refine start_ (n := 17) (S := fun w' => w'.cell? ⟨g, b, none⟩ = some (.int .u32 vp) ∧ w'.cell? ⟨g, c, none⟩ = some (.int .u32 vq)) (ds := [16]) #[false, false, false, false, false, false, false, false, false, false, false, false, false, false, false, false, false] (by kernel_rfl) rfl rfl ⟨hcp, hcq⟩ (fun hHeld => ?_)
  refine pure_ (i := 0) (N := some 110) (v := ?_) (a' := ?_) #[true, false, false, false, false, false, false, false, false, false, false, false, false, false, false, false, false] rfl rfl (by kernel_rfl) (fun _ _ _ h => h) (Or.inl ⟨by rfl, ?_⟩) ?_ ?_
  rotate_left
  · intro w'
    go_simp
    with_reducible rfl
  rotate_left
  · simp only [Act.put, List.setIfInBounds_toArray, List.set_cons_zero, List.set_cons_succ, i64_w, i32_w]
    rfl
  refine pure_ (i := 1) (N := some 111) (v := ?_) (a' := ?_) #[true, true, false, false, false, false, false, false, false, false, false, false, false, false, false, false, false] rfl rfl (by kernel_rfl) (fun _ _ _ h => h) (Or.inl ⟨by rfl, ?_⟩) ?_ ?_
  rotate_left
  · intro w'
    go_simp
    with_reducible rfl
  rotate_left
  · simp only [Act.put, List.setIfInBounds_toArray, List.set_cons_zero, List.set_cons_succ, i64_w, i32_w]
    rfl
  refine pure_ (i := 2) (N := some 112) (v := ?_) (a' := ?_) #[true, true, true, false, false, false, false, false, false, false, false, false, false, false, false, false, false] rfl rfl (by kernel_rfl) (fun _ _ _ h => h) (Or.inl ⟨by rfl, ?_⟩) ?_ ?_
  rotate_left
  · intro w'
    go_simp
    with_reducible rfl
  rotate_left
  · simp only [Act.put, List.setIfInBounds_toArray, List.set_cons_zero, List.set_cons_succ, i64_w, i32_w]
    rfl
  refine pure_ (i := 3) (N := some 113) (v := ?_) (a' := ?_) #[true, true, true, true, false, false, false, false, false, false, false, false, false, false, false, false, false] rfl rfl (by kernel_rfl) (fun _ _ _ h => h) (Or.inl ⟨by rfl, ?_⟩) ?_ ?_
  rotate_left
  · intro w'
    go_simp
    with_reducible rfl
  rotate_left
  · simp only [Act.put, List.setIfInBounds_toArray, List.set_cons_zero, List.set_cons_succ, i64_w, i32_w]
    rfl
  refine pure_ (i := 4) (N := some 114) (v := ?_) (a' := ?_) #[true, true, true, true, true, false, false, false, false, false, false, false, false, false, false, false, false] rfl rfl (by kernel_rfl) (fun _ _ _ h => h) (Or.inl ⟨by rfl, ?_⟩) ?_ ?_
  rotate_left
  · intro w'
    go_simp
    with_reducible rfl
  rotate_left
  · simp only [Act.put, List.setIfInBounds_toArray, List.set_cons_zero, List.set_cons_succ, i64_w, i32_w]
    rfl
  refine pure_ (i := 5) (N := some 115) (v := ?_) (a' := ?_) #[true, true, true, true, true, true, false, false, false, false, false, false, false, false, false, false, false] rfl rfl (by kernel_rfl) (fun _ _ _ h => h) (Or.inl ⟨by rfl, ?_⟩) ?_ ?_
  rotate_left
  · intro w'
    go_simp
    with_reducible rfl
  rotate_left
  · simp only [Act.put, List.setIfInBounds_toArray, List.set_cons_zero, List.set_cons_succ, i64_w, i32_w]
    rfl
  refine pure_ (i := 7) (N := some 117) (v := ?_) (a' := ?_) #[true, true, true, true, true, true, false, true, false, false, false, false, false, false, false, false, false] rfl rfl (by kernel_rfl) (fun _ _ _ h => h) (Or.inl ⟨by rfl, ?_⟩) ?_ ?_
  rotate_left
  · intro w'
    go_simp
    with_reducible rfl
  rotate_left
  · simp only [Act.put, List.setIfInBounds_toArray, List.set_cons_zero, List.set_cons_succ, i64_w, i32_w]
    rfl
  refine pure_ (i := 8) (N := some 118) (v := ?_) (a' := ?_) #[true, true, true, true, true, true, false, true, true, false, false, false, false, false, false, false, false] rfl rfl (by kernel_rfl) (fun _ _ _ h => h) (Or.inl ⟨by rfl, ?_⟩) ?_ ?_
  rotate_left
  · intro w'
    go_simp
    with_reducible rfl
  rotate_left
  · simp only [Act.put, List.setIfInBounds_toArray, List.set_cons_zero, List.set_cons_succ, i64_w, i32_w]
    rfl
  refine pure_ (i := 9) (N := some 119) (v := ?_) (a' := ?_) #[true, true, true, true, true, true, false, true, true, true, false, false, false, false, false, false, false] rfl rfl (by kernel_rfl) (fun _ _ _ h => h) (Or.inl ⟨by rfl, ?_⟩) ?_ ?_
  rotate_left
  · intro w'
    go_simp
    with_reducible rfl
  rotate_left
  · simp only [Act.put, List.setIfInBounds_toArray, List.set_cons_zero, List.set_cons_succ, i64_w, i32_w]
    rfl
  refine pure_ (i := 10) (N := some 120) (v := ?_) (a' := ?_) #[true, true, true, true, true, true, false, true, true, true, true, false, false, false, false, false, false] rfl rfl (by kernel_rfl) (fun _ _ _ h => h) (Or.inl ⟨by rfl, ?_⟩) ?_ ?_
  rotate_left
  · intro w'
    go_simp
    with_reducible rfl
  rotate_left
  · simp only [Act.put, List.setIfInBounds_toArray, List.set_cons_zero, List.set_cons_succ, i64_w, i32_w]
    rfl
  refine pure_ (i := 14) (N := some 124) (v := ?_) (a' := ?_) #[true, true, true, true, true, true, false, true, true, true, true, false, false, false, true, false, false] rfl rfl (by kernel_rfl) (fun _ _ _ h => h) (Or.inl ⟨by rfl, ?_⟩) ?_ ?_
  rotate_left
  · intro w'
    go_simp
    with_reducible rfl
  rotate_left
  · simp only [Act.put, List.setIfInBounds_toArray, List.set_cons_zero, List.set_cons_succ, i64_w, i32_w]
    rfl
  refine take_ (i := 6) (N := some 116) (v := ?_) (a' := ?_) #[true, true, true, true, true, true, true, true, true, true, true, false, false, false, true, false, false] rfl rfl (by kernel_rfl) (fun _ _ _ h => h) (Or.inl ⟨by rfl, ?_⟩) hHeld ?_ ?_
  rotate_left
  · rintro w' ⟨s0, s1⟩
    go_simp
    with_reducible rfl
  rotate_left
  · simp only [Act.put, List.setIfInBounds_toArray, List.set_cons_zero, List.set_cons_succ, i64_w, i32_w]
    rfl
  refine take_ (i := 11) (N := some 121) (v := ?_) (a' := ?_) #[true, true, true, true, true, true, true, true, true, true, true, true, false, false, true, false, false] rfl rfl (by kernel_rfl) (fun _ _ _ h => h) (Or.inl ⟨by rfl, ?_⟩) hHeld ?_ ?_
  rotate_left
  · rintro w' ⟨s0, s1⟩
    go_simp
    with_reducible rfl
  rotate_left
  · simp only [Act.put, List.setIfInBounds_toArray, List.set_cons_zero, List.set_cons_succ, i64_w, i32_w]
    rfl
  refine pure_ (i := 12) (N := some 122) (v := ?_) (a' := ?_) #[true, true, true, true, true, true, true, true, true, true, true, true, true, false, true, false, false] rfl rfl (by kernel_rfl) (fun _ _ _ h => h) (Or.inl ⟨by rfl, ?_⟩) ?_ ?_
  rotate_left
  · intro w'
    go_simp
    with_reducible rfl
  rotate_left
  · simp only [Act.put, List.setIfInBounds_toArray, List.set_cons_zero, List.set_cons_succ, i64_w, i32_w]
    rfl
  refine one_ (i := 13) (N := some 123) #[true, true, true, true, true, true, true, true, true, true, true, true, true, true, true, false, false] rfl rfl (by kernel_rfl) (by decide) (fun K hK => ?_)
  refine goes_ Try.func19 (by kernel_rfl) rfl #[.int .u32 (Go.bits .xor .u32 vp vq), .int .i64 7] (by rfl) rfl rfl (by simp only [List.map_toArray, List.map_cons, List.map_nil]; rfl) ?_
  with_reducible refine (rl_7 _ _).mono ?_
  rintro e w1 ⟨rfl, m, rfl⟩
  refine ⟨_, rfl, ?_⟩
  refine hK.out _ _ ⟨hHeld.1, hHeld.2⟩ (fun hHeld => ?_)
  clear hK K
  refine norm_ (a' := ?_) ?_ ?_
  rotate_left
  · show Act.put _ (some 123) _ = _
    simp only [Act.put, List.setIfInBounds_toArray, List.set_cons_zero, List.set_cons_succ, i64_w, i32_w]
    rfl
  refine pure_ (i := 15) (N := some 125) (v := ?_) (a' := ?_) #[true, true, true, true, true, true, true, true, true, true, true, true, true, true, true, true, false] rfl rfl (by kernel_rfl) (fun _ _ _ h => h) (Or.inl ⟨by rfl, ?_⟩) ?_ ?_
  rotate_left
  · intro w'
    go_simp
    with_reducible rfl
  rotate_left
  · simp only [Act.put, List.setIfInBounds_toArray, List.set_cons_zero, List.set_cons_succ, i64_w, i32_w]
    rfl
  refine last_ (i := 16) (N := none) #[true, true, true, true, true, true, true, true, true, true, true, true, true, true, true, true, true] rfl rfl (by kernel_rfl) (by decide) (fun K hK => ?_)
  refine skip_ (w1 := ?_) (by rfl) rfl ?_ ?_
  rotate_left
  · go_simp
    rfl
  refine hK.out _ _ ?_
  clear hK K
  refine done_ (by kernel_rfl) ?_

  have n0 : IsArr ((W6.drewN (1 + m)).setCell ⟨g, b, none⟩ (.int .u32 (rl (Go.bits .xor .u32 vp vq) 7))) g 31 .u32 (qx y6 b c 7) := by
    have h := IsArr.set (HX.out.drewN (1 + m)) b (rl (Go.bits .xor .u32 vp vq) 7)
    rw [← HV.out.1, ← HV.out.2] at h ⊢
    exact h
  have n1 := SetBlk.put (SetBlk.drewN' HS.out (1 + m)) b (.int .u32 (rl (Go.bits .xor .u32 vp vq) 7))
  generalize ((W6.drewN (1 + m)).setCell ⟨g, b, none⟩ (.int .u32 (rl (Go.bits .xor .u32 vp vq) 7))) = W7 at n0 n1 ⊢
  obtain ⟨y7, hy⟩ : ∃ y, qx y6 b c 7 = y := ⟨_, rfl⟩
  rw [hy] at n0
  have n2 := Aside0.mk (show y7.length = 16 by rw [← hy, qx_length]; exact HL.out)
  have HY7 := Aside0.mk hy
  have n3 := Aside0.mk n0
  have n4 := Aside0.mk n1
  clear n0 n1 hcp hcq hfp HX HS HL HV hy
  have HX := n3
  have HS := n4
  have HL := n2
  clear n2 n3 n4
  go_wp2
  go_end0
  refine ⟨rfl, ?_, HS.out⟩
  have e : q4 xs a b c d = y7 := by
    unfold q4
    rw [HY0.out, HY1.out, HY2.out, HY3.out, HY4.out, HY5.out, HY6.out, HY7.out]
  rw [e]
  exact HX.out
end Go.Proofs.Ytfomeaejhljahaa.Cha
