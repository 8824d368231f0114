/- The document's words, turns and quarters of a block. -/
import Derived.Test.YtfomeaejhljahaaChaD
namespace Go.Proofs.Ytfomeaejhljahaa.Cha
open Go.RowKit Go.Proofs.YtfomeaejhljahaaW.PrintWords Go.Proofs.YtfomeaejhljahaaW.PrintLast Go.Proofs.YtfomeaejhljahaaW.PrintMore Go.Proofs.Ytfomeaejhljahaa.XA Go.Proofs.Ytfomeaejhljahaa.XU Go.Proofs.Ytfomeaejhljahaa.XB Go.Proofs.Ytfomeaejhljahaa.XM
set_option linter.unusedVariables false
set_option linter.unusedSimpArgs false
theorem rl_eq_16 {n : Int} (h : U n) : rl n 16 = (n * 65536 % 4294967296 + n / 65536) % 4294967296 := by
  unfold rl
  have e : n * 2 ^ 16 % 4294967296 = n % 65536 * 2 ^ 16 := by simp only [Int.reducePow]; omega
  have e1 : n / 2 ^ (32 - 16) = n / 65536 := by simp only [Nat.reduceSub, Int.reducePow]
  rw [e, e1]
  unfold U at h
  have := (or_add (x := n / 65536) (y := n % 65536) 16 (by unfold U; omega) (by unfold U; simp only [Int.reducePow]; omega) (by omega) (by simp only [Int.reducePow]; omega)).2
  rw [this]
  all_goals try simp only [Int.reducePow]
  all_goals omega
theorem left_16 {n : Int} (h : U n) (w : World) : Calls Try.prog 20 #[.int .u32 n, .int .u64 16] w fun e w'' => e = .returned (.int .u32 (rl n 16)) ∧ ∃ m, w'' = w.drewN m := by
  rw [rl_eq_16 h]
  unfold U at h
  obtain ⟨h0, h1⟩ := h
  have ht : Int.tdiv n 65536 = n / 65536 := td h0
  go_enter Try.func20, Try.ntmps20
  go_wp2
  go_ret
  refine ⟨?_, 0, rfl⟩
  simp
  try omega
theorem rl_U_16 {n : Int} (h : U n) : U (rl n 16) := by rw [rl_eq_16 h]; exact U_mod _
theorem qx_U_16 {xs : List Int} (h : AU xs) (p q : Nat) : AU (qx xs p q 16) := h.set _ (rl_U_16 (U_bits (h.getD p) (h.getD q)).2.2)
theorem rl_eq_12 {n : Int} (h : U n) : rl n 12 = (n * 4096 % 4294967296 + n / 1048576) % 4294967296 := by
  unfold rl
  have e : n * 2 ^ 12 % 4294967296 = n % 1048576 * 2 ^ 12 := by simp only [Int.reducePow]; omega
  have e1 : n / 2 ^ (32 - 12) = n / 1048576 := by simp only [Nat.reduceSub, Int.reducePow]
  rw [e, e1]
  unfold U at h
  have := (or_add (x := n / 1048576) (y := n % 1048576) 12 (by unfold U; omega) (by unfold U; simp only [Int.reducePow]; omega) (by omega) (by simp only [Int.reducePow]; omega)).2
  rw [this]
  all_goals try simp only [Int.reducePow]
  all_goals omega
theorem left_12 {n : Int} (h : U n) (w : World) : Calls Try.prog 20 #[.int .u32 n, .int .u64 12] w fun e w'' => e = .returned (.int .u32 (rl n 12)) ∧ ∃ m, w'' = w.drewN m := by
  rw [rl_eq_12 h]
  unfold U at h
  obtain ⟨h0, h1⟩ := h
  have ht : Int.tdiv n 1048576 = n / 1048576 := td h0
  go_enter Try.func20, Try.ntmps20
  go_wp2
  go_ret
  refine ⟨?_, 0, rfl⟩
  simp
  try omega
theorem rl_U_12 {n : Int} (h : U n) : U (rl n 12) := by rw [rl_eq_12 h]; exact U_mod _
theorem qx_U_12 {xs : List Int} (h : AU xs) (p q : Nat) : AU (qx xs p q 12) := h.set _ (rl_U_12 (U_bits (h.getD p) (h.getD q)).2.2)
theorem rl_eq_8 {n : Int} (h : U n) : rl n 8 = (n * 256 % 4294967296 + n / 16777216) % 4294967296 := by
  unfold rl
  have e : n * 2 ^ 8 % 4294967296 = n % 16777216 * 2 ^ 8 := by simp only [Int.reducePow]; omega
  have e1 : n / 2 ^ (32 - 8) = n / 16777216 := by simp only [Nat.reduceSub, Int.reducePow]
  rw [e, e1]
  unfold U at h
  have := (or_add (x := n / 16777216) (y := n % 16777216) 8 (by unfold U; omega) (by unfold U; simp only [Int.reducePow]; omega) (by omega) (by simp only [Int.reducePow]; omega)).2
  rw [this]
  all_goals try simp only [Int.reducePow]
  all_goals omega
theorem left_8 {n : Int} (h : U n) (w : World) : Calls Try.prog 20 #[.int .u32 n, .int .u64 8] w fun e w'' => e = .returned (.int .u32 (rl n 8)) ∧ ∃ m, w'' = w.drewN m := by
  rw [rl_eq_8 h]
  unfold U at h
  obtain ⟨h0, h1⟩ := h
  have ht : Int.tdiv n 16777216 = n / 16777216 := td h0
  go_enter Try.func20, Try.ntmps20
  go_wp2
  go_ret
  refine ⟨?_, 0, rfl⟩
  simp
  try omega
theorem rl_U_8 {n : Int} (h : U n) : U (rl n 8) := by rw [rl_eq_8 h]; exact U_mod _
theorem qx_U_8 {xs : List Int} (h : AU xs) (p q : Nat) : AU (qx xs p q 8) := h.set _ (rl_U_8 (U_bits (h.getD p) (h.getD q)).2.2)
theorem rl_eq_7 {n : Int} (h : U n) : rl n 7 = (n * 128 % 4294967296 + n / 33554432) % 4294967296 := by
  unfold rl
  have e : n * 2 ^ 7 % 4294967296 = n % 33554432 * 2 ^ 7 := by simp only [Int.reducePow]; omega
  have e1 : n / 2 ^ (32 - 7) = n / 33554432 := by simp only [Nat.reduceSub, Int.reducePow]
  rw [e, e1]
  unfold U at h
  have := (or_add (x := n / 33554432) (y := n % 33554432) 7 (by unfold U; omega) (by unfold U; simp only [Int.reducePow]; omega) (by omega) (by simp only [Int.reducePow]; omega)).2
  rw [this]
  all_goals try simp only [Int.reducePow]
  all_goals omega
theorem left_7 {n : Int} (h : U n) (w : World) : Calls Try.prog 20 #[.int .u32 n, .int .u64 7] w fun e w'' => e = .returned (.int .u32 (rl n 7)) ∧ ∃ m, w'' = w.drewN m := by
  rw [rl_eq_7 h]
  unfold U at h
  obtain ⟨h0, h1⟩ := h
  have ht : Int.tdiv n 33554432 = n / 33554432 := td h0
  go_enter Try.func20, Try.ntmps20
  go_wp2
  go_ret
  refine ⟨?_, 0, rfl⟩
  simp
  try omega
theorem rl_U_7 {n : Int} (h : U n) : U (rl n 7) := by rw [rl_eq_7 h]; exact U_mod _
theorem qx_U_7 {xs : List Int} (h : AU xs) (p q : Nat) : AU (qx xs p q 7) := h.set _ (rl_U_7 (U_bits (h.getD p) (h.getD q)).2.2)
theorem qa_U {xs : List Int} (h : AU xs) (p q : Nat) : AU (qa xs p q) := h.set _ (U_mod _)
theorem q4_U {xs : List Int} (h : AU xs) (a b c d : Nat) : AU (q4 xs a b c d) := qx_U_7 (qa_U (qx_U_8 (qa_U (qx_U_12 (qa_U (qx_U_16 (qa_U h _ _) _ _) _ _) _ _) _ _) _ _) _ _) _ _
set_option maxHeartbeats 4000000 in
theorem refword_calls (s : ByteArray) (a : Int) (z0 : 0 ≤ a) (hs : a + 4 ≤ (s.size : Int)) (hz : (s.size : Int) ≤ 1000) (w : World) : Calls Try.prog 16 #[.string s, .int .i64 a] w fun e w' => e = .returned (.int .u32 (rw4 s a)) ∧ ∃ m, w' = w.drewN m := by
  have z0_ : 0 ≤ a := by omega
  have q0 : a < (s.size : Int) := by omega
  have h0 := bt_at s a
  have z0t := eq_true z0_
  have q0t := eq_true q0
  have z1_ : 0 ≤ (a + 1) := by omega
  have q1 : (a + 1) < (s.size : Int) := by omega
  have h1 := bt_at s (a + 1)
  have z1t := eq_true z1_
  have q1t := eq_true q1
  have z2_ : 0 ≤ (a + 2) := by omega
  have q2 : (a + 2) < (s.size : Int) := by omega
  have h2 := bt_at s (a + 2)
  have z2t := eq_true z2_
  have q2t := eq_true q2
  have z3_ : 0 ≤ (a + 3) := by omega
  have q3 : (a + 3) < (s.size : Int) := by omega
  have h3 := bt_at s (a + 3)
  have z3t := eq_true z3_
  have q3t := eq_true q3
  have r0 := bt_range s a
  have r1 := bt_range s (a + 1)
  have r2 := bt_range s (a + 2)
  have r3 := bt_range s (a + 3)
  have HR := Aside0.mk (And.intro r0 (And.intro r1 (And.intro r2 r3)))
  have w1 : wrap64 (a + 1) = a + 1 := w64 (by omega) (by omega)
  have w2 : wrap64 (a + 2) = a + 2 := w64 (by omega) (by omega)
  have w3 : wrap64 (a + 3) = a + 3 := w64 (by omega) (by omega)
  clear r0 r1 r2 r3
  go_enter Try.func16, Try.ntmps16
  go_wp2
  go_quiet (fail)
  all_goals go_wp2
  all_goals go_ret
  have r0 := HR.out.1
  have r1 := HR.out.2.1
  have r2 := HR.out.2.2.1
  have r3 := HR.out.2.2.2
  refine ⟨congrArg (fun x => Ending.returned (Value.int .u32 x)) (show (((bt s a + bt s (a + 1) % 4294967296 * 256 + bt s (a + 2) % 4294967296 * 65536) % 4294967296 + bt s (a + 3) % 4294967296 * 16777216 % 4294967296) % 4294967296) = rw4 s a from ?_), nq, rfl⟩
  unfold rw4
  omega
def byL : List Int := [16, 12, 8, 7]
def qs (xs : List Int) (a b c d : Nat) : Nat → List Int
  | 0 => xs
  | 1 => qx (qa xs a b) d a 16
  | 2 => qx (qa (qx (qa xs a b) d a 16) c d) b c 12
  | 3 => qx (qa (qx (qa (qx (qa xs a b) d a 16) c d) b c 12) a b) d a 8
  | _ => q4 xs a b c d
theorem qs_length (xs : List Int) (a b c d k : Nat) : (qs xs a b c d k).length = xs.length := by
  rcases k with _ | _ | _ | _ | k <;> simp only [qs, q4, qa_length, qx_length]
theorem qs_U {xs : List Int} (h : AU xs) (a b c d k : Nat) : AU (qs xs a b c d k) := by
  rcases k with _ | _ | _ | _ | k
  · exact h
  · exact qx_U_16 (qa_U h _ _) _ _
  · exact qx_U_12 (qa_U (qx_U_16 (qa_U h _ _) _ _) _ _) _ _
  · exact qx_U_8 (qa_U (qx_U_12 (qa_U (qx_U_16 (qa_U h _ _) _ _) _ _) _ _) _ _) _ _
  · exact q4_U h _ _ _ _
set_option maxHeartbeats 8000000 in
set_option maxRecDepth 100000 in
theorem refquarter_calls (a b c d : Nat) (ha : a < 16) (hb : b < 16) (hc : c < 16) (hd : d < 16) (xs : List Int) (hl : xs.length = 16) (hu : AU xs) (w : World) :
    Calls Try.prog 17 #[.agg (arrK .u32 xs), .int .i64 a, .int .i64 b, .int .i64 c, .int .i64 d] w fun e w' => e = .returned (.agg (arrK .u32 (q4 xs a b c d))) ∧ Below w.heap.size w w' := by
  have a0 : (0 : Int) ≤ a := by omega
  have a1 : (a : Int) < 16 := by omega
  have b0 : (0 : Int) ≤ b := by omega
  have b1 : (b : Int) < 16 := by omega
  have c0 : (0 : Int) ≤ c := by omega
  have c1 : (c : Int) < 16 := by omega
  have d0 : (0 : Int) ≤ d := by omega
  have d1 : (d : Int) < 16 := by omega
  have HB := Aside0.mk (Below.refl w.heap.size w)
  have HL0 := Aside0.mk hl
  have HU0 := Aside0.mk hu
  clear hl hu
  go_enter Try.func17, Try.ntmps17
  go_wp2_with (first
    | ((with_reducible refine gate_dst (N := 5) rfl ?_); refine arr_new ?hg (N := 5) ?hd xs .u32 30 ?hr ?_; (case hd => rfl); (case hg => rfl); (case hr => first | (go_simp; done) | (go_simp; rfl)); intro g eg w1 hx hb; have HX := Aside0.mk hx; have n0 := Aside0.mk (below_step HB.out hb); have LX := Aside0.mk (show w.heap.size ≤ g by rw [eg]; exact HB.out.size); clear HB hx hb eg; have HB := n0; clear n0)
    | ((with_reducible refine gate_dst (N := 10) rfl ?_); refine arr_new ?hg (N := 10) ?hd z16 .u32 30 ?hr ?_; (case hd => rfl); (case hg => rfl); (case hr => first | (go_simp; done) | (go_simp; rfl)); intro gr eg w2 hx hb; have n1 := Aside0.mk (HX.out.below hb); have HR := Aside0.mk hx; have n0 := Aside0.mk (below_step HB.out hb); have LR := Aside0.mk (show w.heap.size ≤ gr by rw [eg]; exact HB.out.size); have NXR := Aside0.mk (show gr ≠ g by rw [eg]; exact Nat.ne_of_gt HX.out.lt); clear HB HX hx hb eg; have HB := n0; have HX := n1; clear n0 n1))
  have HY := Aside0.mk (show IsArr (w2.alloc (.cells #[.int .u64 16, .int .u64 12, .int .u64 8, .int .u64 7] 35)) w2.heap.size 35 .u64 byL from blk_new w2 _)
  have b1 := Below.refl w2.heap.size w2
  have n1 := Aside0.mk (HX.out.below (below_alloc b1 (.cells #[.int .u64 16, .int .u64 12, .int .u64 8, .int .u64 7] 35)))
  have n2 := Aside0.mk (HR.out.below (below_alloc b1 (.cells #[.int .u64 16, .int .u64 12, .int .u64 8, .int .u64 7] 35)))
  have n3 := Aside0.mk (below_alloc HB.out (.cells #[.int .u64 16, .int .u64 12, .int .u64 8, .int .u64 7] 35))
  have NXY := Aside0.mk (show w2.heap.size ≠ g from Nat.ne_of_gt HX.out.lt)
  clear HX HR HB b1
  have HX := n1; have HR := n2; have HB := n3
  clear n1 n2 n3
  generalize w2.alloc (.cells #[.int .u64 16, .int .u64 12, .int .u64 8, .int .u64 7] 35) = w3 at HX HR HB HY ⊢
  obtain ⟨gy, hgy⟩ : ∃ g, w2.heap.size = g := ⟨_, rfl⟩
  rw [hgy] at HY NXY ⊢
  clear hgy
  go_loopw [12] (fun i wr => ∃ k : Nat, k ≤ 4 ∧ i = .int .i64 k ∧ IsArr wr g 30 .u32 (qs xs a b c d k) ∧ IsArr wr gr 30 .u32 z16 ∧ IsArr wr gy 35 .u64 byL ∧ Below w.heap.size w wr) (fun i _ => 4 - (intOf i).toNat)
  case atStart => exact ⟨0, by omega, rfl, HX.out, HR.out, HY.out, HB.out⟩
  case round =>
    clear HX HR HY HB
    obtain ⟨k, hk, rfl, hX, hR, hY, hB⟩ := hrel
    have HX := Aside0.mk hX; have HR := Aside0.mk hR; have HY := Aside0.mk hY; have HB := Aside0.mk hB
    clear hX hR hY hB
    obtain ⟨ys, hys⟩ : ∃ y, qs xs a b c d k = y := ⟨_, rfl⟩
    have HL := Aside0.mk (show ys.length = 16 by rw [← hys, qs_length]; exact HL0.out)
    have HU := Aside0.mk (show AU ys by rw [← hys]; exact qs_U HU0.out _ _ _ _ _)
    rw [hys] at HX
    have HE := Aside0.mk hys
    clear hys
    by_cases hlt : k < 4
    · have hkk : k = 0 ∨ k = 1 ∨ k = 2 ∨ k = 3 := by omega
      rcases hkk with rfl | rfl | rfl | rfl
      · rw [show ((0 : Nat) : Int) = 0 from rfl]
        obtain ⟨vp, hvp⟩ : ∃ v, ys.getD a 0 = v := ⟨_, rfl⟩
        obtain ⟨vq, hvq⟩ : ∃ v, ys.getD b 0 = v := ⟨_, rfl⟩
        have hcp : wr.cell? ⟨g, a, none⟩ = some (.int .u32 vp) := by rw [← hvp]; exact HX.out.cell a (by rw [HL.out]; omega)
        have hcq : wr.cell? ⟨g, b, none⟩ = some (.int .u32 vq) := by rw [← hvq]; exact HX.out.cell b (by rw [HL.out]; omega)
        have hfp := HX.out.frozen a
        have HV := Aside0.mk (And.intro hvp hvq)
        clear hvp hvq
        go_wp2
        go_region
        have n0 : IsArr (wr.setCell ⟨g, a, none⟩ (.int .u32 ((vp + vq) % 4294967296))).drew g 30 .u32 (qa ys a b) := by
          have h := IsArr.set HX.out a ((vp + vq) % 4294967296)
          rw [← HV.out.1, ← HV.out.2] at h ⊢
          exact h.drew
        have n1 : IsArr (wr.setCell ⟨g, a, none⟩ (.int .u32 ((vp + vq) % 4294967296))).drew gr 30 .u32 z16 := (HR.out.far NXR.out _).drew
        have n2 : IsArr (wr.setCell ⟨g, a, none⟩ (.int .u32 ((vp + vq) % 4294967296))).drew gy 35 .u64 byL := (HY.out.far NXY.out _).drew
        have n3 := below_drew1 (below_set (g := g) (j := a) (v := .int .u32 ((vp + vq) % 4294967296)) HB.out LX.out)
        generalize (wr.setCell ⟨g, a, none⟩ (.int .u32 ((vp + vq) % 4294967296))).drew = W0 at n0 n1 n2 n3 ⊢
        obtain ⟨y0, hy⟩ : ∃ y, qa ys a b = y := ⟨_, rfl⟩
        rw [hy] at n0
        have m1 := Aside0.mk (show y0.length = 16 by rw [← hy, qa_length]; exact HL.out)
        have m2 := Aside0.mk (show AU y0 by rw [← hy]; exact qa_U HU.out _ _)
        have HY0 := Aside0.mk hy
        clear hcp hcq hfp HX HR HY HB HL HU HV hy
        have HX := Aside0.mk n0
        have HR := Aside0.mk n1
        have HY := Aside0.mk n2
        have HB := Aside0.mk n3
        have HL := m1
        have HU := m2
        clear n0 n1 n2 n3 m1 m2
        obtain ⟨vp, hvp⟩ : ∃ v, y0.getD d 0 = v := ⟨_, rfl⟩
        obtain ⟨vq, hvq⟩ : ∃ v, y0.getD a 0 = v := ⟨_, rfl⟩
        have hcp : W0.cell? ⟨g, d, none⟩ = some (.int .u32 vp) := by rw [← hvp]; exact HX.out.cell d (by rw [HL.out]; omega)
        have hcq : W0.cell? ⟨g, a, none⟩ = some (.int .u32 vq) := by rw [← hvq]; exact HX.out.cell a (by rw [HL.out]; omega)
        have hfp := HX.out.frozen d
        have HV := Aside0.mk (And.intro hvp hvq)
        have hcy : W0.cell? ⟨gy, 0, none⟩ = some (.int .u64 16) := HY.out.cell 0 (by decide)
        have HUX := Aside0.mk (show U (Go.bits .xor .u32 vp vq) by rw [← hvp, ← hvq]; exact (U_bits (HU.out.getD _) (HU.out.getD _)).2.2)
        clear hvp hvq
        go_wp2
        refine start_ (n := 15) (S := fun w' => w'.cell? ⟨g, d, none⟩ = some (.int .u32 vp) ∧ w'.cell? ⟨g, a, none⟩ = some (.int .u32 vq) ∧ w'.cell? ⟨gy, 0, none⟩ = some (.int .u64 16)) (ds := [14]) #[false, false, false, false, false, false, false, false, false, false, false, false, false, false, false] (by kernel_rfl) rfl rfl ⟨hcp, hcq, hcy⟩ (fun hHeld => ?_)
        refine pure_ (i := 0) (N := some 29) (v := ?_) (a' := ?_) #[true, false, false, false, false, false, false, false, false, false, false, false, false, false, false] rfl rfl (by kernel_rfl) (fun _ _ _ h => h) (Or.inl ⟨by rfl, ?_⟩) ?_ ?_
        rotate_left
        · intro w'
          go_simp
          with_reducible rfl
        rotate_left
        · simp only [Act.put, List.setIfInBounds_toArray, List.set_cons_zero, List.set_cons_succ, i64_w, i32_w]
          rfl
        refine pure_ (i := 1) (N := some 30) (v := ?_) (a' := ?_) #[true, true, false, false, false, false, false, false, false, false, false, false, false, false, false] rfl rfl (by kernel_rfl) (fun _ _ _ h => h) (Or.inl ⟨by rfl, ?_⟩) ?_ ?_
        rotate_left
        · intro w'
          go_simp
          with_reducible rfl
        rotate_left
        · simp only [Act.put, List.setIfInBounds_toArray, List.set_cons_zero, List.set_cons_succ, i64_w, i32_w]
          rfl
        refine pure_ (i := 2) (N := some 31) (v := ?_) (a' := ?_) #[true, true, true, false, false, false, false, false, false, false, false, false, false, false, false] rfl rfl (by kernel_rfl) (fun _ _ _ h => h) (Or.inl ⟨by rfl, ?_⟩) ?_ ?_
        rotate_left
        · intro w'
          go_simp
          with_reducible rfl
        rotate_left
        · simp only [Act.put, List.setIfInBounds_toArray, List.set_cons_zero, List.set_cons_succ, i64_w, i32_w]
          rfl
        refine pure_ (i := 4) (N := some 33) (v := ?_) (a' := ?_) #[true, true, true, false, true, false, false, false, false, false, false, false, false, false, false] rfl rfl (by kernel_rfl) (fun _ _ _ h => h) (Or.inl ⟨by rfl, ?_⟩) ?_ ?_
        rotate_left
        · intro w'
          go_simp
          with_reducible rfl
        rotate_left
        · simp only [Act.put, List.setIfInBounds_toArray, List.set_cons_zero, List.set_cons_succ, i64_w, i32_w]
          rfl
        refine pure_ (i := 5) (N := some 34) (v := ?_) (a' := ?_) #[true, true, true, false, true, true, false, false, false, false, false, false, false, false, false] rfl rfl (by kernel_rfl) (fun _ _ _ h => h) (Or.inl ⟨by rfl, ?_⟩) ?_ ?_
        rotate_left
        · intro w'
          go_simp
          with_reducible rfl
        rotate_left
        · simp only [Act.put, List.setIfInBounds_toArray, List.set_cons_zero, List.set_cons_succ, i64_w, i32_w]
          rfl
        refine pure_ (i := 8) (N := some 37) (v := ?_) (a' := ?_) #[true, true, true, false, true, true, false, false, true, false, false, false, false, false, false] rfl rfl (by kernel_rfl) (fun _ _ _ h => h) (Or.inl ⟨by rfl, ?_⟩) ?_ ?_
        rotate_left
        · intro w'
          go_simp
          with_reducible rfl
        rotate_left
        · simp only [Act.put, List.setIfInBounds_toArray, List.set_cons_zero, List.set_cons_succ, i64_w, i32_w]
          rfl
        refine pure_ (i := 9) (N := some 38) (v := ?_) (a' := ?_) #[true, true, true, false, true, true, false, false, true, true, false, false, false, false, false] rfl rfl (by kernel_rfl) (fun _ _ _ h => h) (Or.inl ⟨by rfl, ?_⟩) ?_ ?_
        rotate_left
        · intro w'
          go_simp
          with_reducible rfl
        rotate_left
        · simp only [Act.put, List.setIfInBounds_toArray, List.set_cons_zero, List.set_cons_succ, i64_w, i32_w]
          rfl
        refine pure_ (i := 10) (N := some 39) (v := ?_) (a' := ?_) #[true, true, true, false, true, true, false, false, true, true, true, false, false, false, false] rfl rfl (by kernel_rfl) (fun _ _ _ h => h) (Or.inl ⟨by rfl, ?_⟩) ?_ ?_
        rotate_left
        · intro w'
          go_simp
          with_reducible rfl
        rotate_left
        · simp only [Act.put, List.setIfInBounds_toArray, List.set_cons_zero, List.set_cons_succ, i64_w, i32_w]
          rfl
        refine take_ (i := 3) (N := some 32) (v := ?_) (a' := ?_) #[true, true, true, true, true, true, false, false, true, true, true, false, false, false, false] rfl rfl (by kernel_rfl) (fun _ _ _ h => h) (Or.inl ⟨by rfl, ?_⟩) hHeld ?_ ?_
        rotate_left
        · rintro w' ⟨s0, s1, s2⟩
          go_simp
          with_reducible rfl
        rotate_left
        · simp only [Act.put, List.setIfInBounds_toArray, List.set_cons_zero, List.set_cons_succ, i64_w, i32_w]
          rfl
        refine take_ (i := 6) (N := some 35) (v := ?_) (a' := ?_) #[true, true, true, true, true, true, true, false, true, true, true, false, false, false, false] rfl rfl (by kernel_rfl) (fun _ _ _ h => h) (Or.inl ⟨by rfl, ?_⟩) hHeld ?_ ?_
        rotate_left
        · rintro w' ⟨s0, s1, s2⟩
          go_simp
          with_reducible rfl
        rotate_left
        · simp only [Act.put, List.setIfInBounds_toArray, List.set_cons_zero, List.set_cons_succ, i64_w, i32_w]
          rfl
        refine pure_ (i := 7) (N := some 36) (v := ?_) (a' := ?_) #[true, true, true, true, true, true, true, true, true, true, true, false, false, false, false] rfl rfl (by kernel_rfl) (fun _ _ _ h => h) (Or.inl ⟨by rfl, ?_⟩) ?_ ?_
        rotate_left
        · intro w'
          go_simp
          with_reducible rfl
        rotate_left
        · simp only [Act.put, List.setIfInBounds_toArray, List.set_cons_zero, List.set_cons_succ, i64_w, i32_w]
          rfl
        refine take_ (i := 11) (N := some 40) (v := ?_) (a' := ?_) #[true, true, true, true, true, true, true, true, true, true, true, true, false, false, false] rfl rfl (by kernel_rfl) (fun _ _ _ h => h) (Or.inl ⟨by rfl, ?_⟩) hHeld ?_ ?_
        rotate_left
        · rintro w' ⟨s0, s1, s2⟩
          go_simp
          with_reducible rfl
        rotate_left
        · simp only [Act.put, List.setIfInBounds_toArray, List.set_cons_zero, List.set_cons_succ, i64_w, i32_w]
          rfl
        refine one_ (i := 12) (N := some 41) #[true, true, true, true, true, true, true, true, true, true, true, true, true, false, false] rfl rfl (by kernel_rfl) (by decide) (fun K hK => ?_)
        refine goes_ Try.func20 (by kernel_rfl) rfl #[.int .u32 (Go.bits .xor .u32 vp vq), .int .u64 16] (by rfl) rfl rfl (by simp only [List.map_toArray, List.map_cons, List.map_nil]; rfl) ?_
        with_reducible refine (left_16 HUX.out _).mono ?_
        rintro e w1 ⟨rfl, m, rfl⟩
        refine ⟨_, rfl, ?_⟩
        refine hK.out _ _ ⟨hHeld.1, hHeld.2.1, hHeld.2.2⟩ (fun hHeld => ?_)
        clear hK K
        refine norm_ (a' := ?_) ?_ ?_
        rotate_left
        · show Act.put _ (some 41) _ = _
          simp only [Act.put, List.setIfInBounds_toArray, List.set_cons_zero, List.set_cons_succ, i64_w, i32_w]
          rfl
        refine pure_ (i := 13) (N := some 42) (v := ?_) (a' := ?_) #[true, true, true, true, true, true, true, true, true, true, true, true, true, true, false] rfl rfl (by kernel_rfl) (fun _ _ _ h => h) (Or.inl ⟨by rfl, ?_⟩) ?_ ?_
        rotate_left
        · intro w'
          go_simp
          with_reducible rfl
        rotate_left
        · simp only [Act.put, List.setIfInBounds_toArray, List.set_cons_zero, List.set_cons_succ, i64_w, i32_w]
          rfl
        refine last_ (i := 14) (N := none) #[true, true, true, true, true, true, true, true, true, true, true, true, true, true, true] rfl rfl (by kernel_rfl) (by decide) (fun K hK => ?_)
        refine skip_ (w1 := ?_) (by rfl) rfl ?_ ?_
        rotate_left
        · go_simp
          rfl
        refine hK.out _ _ ?_
        clear hK K
        refine done_ (by kernel_rfl) ?_

        have n0 : IsArr ((W0.drewN (1 + m)).setCell ⟨g, d, none⟩ (.int .u32 (rl (Go.bits .xor .u32 vp vq) 16))) g 30 .u32 (qx y0 d a 16) := by
          have h := IsArr.set (HX.out.drewN (1 + m)) d (rl (Go.bits .xor .u32 vp vq) 16)
          rw [← HV.out.1, ← HV.out.2] at h ⊢
          exact h
        have n1 : IsArr ((W0.drewN (1 + m)).setCell ⟨g, d, none⟩ (.int .u32 (rl (Go.bits .xor .u32 vp vq) 16))) gr 30 .u32 z16 := (HR.out.drewN (1 + m)).far NXR.out _
        have n2 : IsArr ((W0.drewN (1 + m)).setCell ⟨g, d, none⟩ (.int .u32 (rl (Go.bits .xor .u32 vp vq) 16))) gy 35 .u64 byL := (HY.out.drewN (1 + m)).far NXY.out _
        have n3 := below_set (g := g) (j := d) (v := .int .u32 (rl (Go.bits .xor .u32 vp vq) 16)) (pw_below_drewN HB.out (1 + m)) LX.out
        generalize ((W0.drewN (1 + m)).setCell ⟨g, d, none⟩ (.int .u32 (rl (Go.bits .xor .u32 vp vq) 16))) = W1 at n0 n1 n2 n3 ⊢
        have HQ := Aside0.mk (show qs xs a b c d (0 + 1) = qx y0 d a 16 by rw [← HY0.out, ← HE.out]; rfl)
        clear hcp hcq hfp hcy HX HR HY HB HL HU HV
        go_wp2
        go_roundw
        case rel => exact ⟨0 + 1, by omega, by go_num, by rw [HQ.out]; exact n0, n1, n2, n3⟩
        case measure => simp [intOf] <;> omega
      · rw [show ((1 : Nat) : Int) = 1 from rfl]
        obtain ⟨vp, hvp⟩ : ∃ v, ys.getD c 0 = v := ⟨_, rfl⟩
        obtain ⟨vq, hvq⟩ : ∃ v, ys.getD d 0 = v := ⟨_, rfl⟩
        have hcp : wr.cell? ⟨g, c, none⟩ = some (.int .u32 vp) := by rw [← hvp]; exact HX.out.cell c (by rw [HL.out]; omega)
        have hcq : wr.cell? ⟨g, d, none⟩ = some (.int .u32 vq) := by rw [← hvq]; exact HX.out.cell d (by rw [HL.out]; omega)
        have hfp := HX.out.frozen c
        have HV := Aside0.mk (And.intro hvp hvq)
        clear hvp hvq
        go_wp2
        go_region
        have n0 : IsArr (wr.setCell ⟨g, c, none⟩ (.int .u32 ((vp + vq) % 4294967296))).drew g 30 .u32 (qa ys c d) := by
          have h := IsArr.set HX.out c ((vp + vq) % 4294967296)
          rw [← HV.out.1, ← HV.out.2] at h ⊢
          exact h.drew
        have n1 : IsArr (wr.setCell ⟨g, c, none⟩ (.int .u32 ((vp + vq) % 4294967296))).drew gr 30 .u32 z16 := (HR.out.far NXR.out _).drew
        have n2 : IsArr (wr.setCell ⟨g, c, none⟩ (.int .u32 ((vp + vq) % 4294967296))).drew gy 35 .u64 byL := (HY.out.far NXY.out _).drew
        have n3 := below_drew1 (below_set (g := g) (j := c) (v := .int .u32 ((vp + vq) % 4294967296)) HB.out LX.out)
        generalize (wr.setCell ⟨g, c, none⟩ (.int .u32 ((vp + vq) % 4294967296))).drew = W0 at n0 n1 n2 n3 ⊢
        obtain ⟨y0, hy⟩ : ∃ y, qa ys c d = y := ⟨_, rfl⟩
        rw [hy] at n0
        have m1 := Aside0.mk (show y0.length = 16 by rw [← hy, qa_length]; exact HL.out)
        have m2 := Aside0.mk (show AU y0 by rw [← hy]; exact qa_U HU.out _ _)
        have HY0 := Aside0.mk hy
        clear hcp hcq hfp HX HR HY HB HL HU HV hy
        have HX := Aside0.mk n0
        have HR := Aside0.mk n1
        have HY := Aside0.mk n2
        have HB := Aside0.mk n3
        have HL := m1
        have HU := m2
        clear n0 n1 n2 n3 m1 m2
        obtain ⟨vp, hvp⟩ : ∃ v, y0.getD b 0 = v := ⟨_, rfl⟩
        obtain ⟨vq, hvq⟩ : ∃ v, y0.getD c 0 = v := ⟨_, rfl⟩
        have hcp : W0.cell? ⟨g, b, none⟩ = some (.int .u32 vp) := by rw [← hvp]; exact HX.out.cell b (by rw [HL.out]; omega)
        have hcq : W0.cell? ⟨g, c, none⟩ = some (.int .u32 vq) := by rw [← hvq]; exact HX.out.cell c (by rw [HL.out]; omega)
        have hfp := HX.out.frozen b
        have HV := Aside0.mk (And.intro hvp hvq)
        have hcy : W0.cell? ⟨gy, 1, none⟩ = some (.int .u64 12) := HY.out.cell 1 (by decide)
        have HUX := Aside0.mk (show U (Go.bits .xor .u32 vp vq) by rw [← hvp, ← hvq]; exact (U_bits (HU.out.getD _) (HU.out.getD _)).2.2)
        clear hvp hvq
        go_wp2
        refine start_ (n := 15) (S := fun w' => w'.cell? ⟨g, b, none⟩ = some (.int .u32 vp) ∧ w'.cell? ⟨g, c, none⟩ = some (.int .u32 vq) ∧ w'.cell? ⟨gy, 1, none⟩ = some (.int .u64 12)) (ds := [14]) #[false, false, false, false, false, false, false, false, false, false, false, false, false, false, false] (by kernel_rfl) rfl rfl ⟨hcp, hcq, hcy⟩ (fun hHeld => ?_)
        refine pure_ (i := 0) (N := some 51) (v := ?_) (a' := ?_) #[true, false, false, false, false, false, false, false, false, false, false, false, false, false, false] rfl rfl (by kernel_rfl) (fun _ _ _ h => h) (Or.inl ⟨by rfl, ?_⟩) ?_ ?_
        rotate_left
        · intro w'
          go_simp
          with_reducible rfl
        rotate_left
        · simp only [Act.put, List.setIfInBounds_toArray, List.set_cons_zero, List.set_cons_succ, i64_w, i32_w]
          rfl
        refine pure_ (i := 1) (N := some 52) (v := ?_) (a' := ?_) #[true, true, false, false, false, false, false, false, false, false, false, false, false, false, false] rfl rfl (by kernel_rfl) (fun _ _ _ h => h) (Or.inl ⟨by rfl, ?_⟩) ?_ ?_
        rotate_left
        · intro w'
          go_simp
          with_reducible rfl
        rotate_left
        · simp only [Act.put, List.setIfInBounds_toArray, List.set_cons_zero, List.set_cons_succ, i64_w, i32_w]
          rfl
        refine pure_ (i := 2) (N := some 53) (v := ?_) (a' := ?_) #[true, true, true, false, false, false, false, false, false, false, false, false, false, false, false] rfl rfl (by kernel_rfl) (fun _ _ _ h => h) (Or.inl ⟨by rfl, ?_⟩) ?_ ?_
        rotate_left
        · intro w'
          go_simp
          with_reducible rfl
        rotate_left
        · simp only [Act.put, List.setIfInBounds_toArray, List.set_cons_zero, List.set_cons_succ, i64_w, i32_w]
          rfl
        refine pure_ (i := 4) (N := some 55) (v := ?_) (a' := ?_) #[true, true, true, false, true, false, false, false, false, false, false, false, false, false, false] rfl rfl (by kernel_rfl) (fun _ _ _ h => h) (Or.inl ⟨by rfl, ?_⟩) ?_ ?_
        rotate_left
        · intro w'
          go_simp
          with_reducible rfl
        rotate_left
        · simp only [Act.put, List.setIfInBounds_toArray, List.set_cons_zero, List.set_cons_succ, i64_w, i32_w]
          rfl
        refine pure_ (i := 5) (N := some 56) (v := ?_) (a' := ?_) #[true, true, true, false, true, true, false, false, false, false, false, false, false, false, false] rfl rfl (by kernel_rfl) (fun _ _ _ h => h) (Or.inl ⟨by rfl, ?_⟩) ?_ ?_
        rotate_left
        · intro w'
          go_simp
          with_reducible rfl
        rotate_left
        · simp only [Act.put, List.setIfInBounds_toArray, List.set_cons_zero, List.set_cons_succ, i64_w, i32_w]
          rfl
        refine pure_ (i := 8) (N := some 59) (v := ?_) (a' := ?_) #[true, true, true, false, true, true, false, false, true, false, false, false, false, false, false] rfl rfl (by kernel_rfl) (fun _ _ _ h => h) (Or.inl ⟨by rfl, ?_⟩) ?_ ?_
        rotate_left
        · intro w'
          go_simp
          with_reducible rfl
        rotate_left
        · simp only [Act.put, List.setIfInBounds_toArray, List.set_cons_zero, List.set_cons_succ, i64_w, i32_w]
          rfl
        refine pure_ (i := 9) (N := some 60) (v := ?_) (a' := ?_) #[true, true, true, false, true, true, false, false, true, true, false, false, false, false, false] rfl rfl (by kernel_rfl) (fun _ _ _ h => h) (Or.inl ⟨by rfl, ?_⟩) ?_ ?_
        rotate_left
        · intro w'
          go_simp
          with_reducible rfl
        rotate_left
        · simp only [Act.put, List.setIfInBounds_toArray, List.set_cons_zero, List.set_cons_succ, i64_w, i32_w]
          rfl
        refine pure_ (i := 10) (N := some 61) (v := ?_) (a' := ?_) #[true, true, true, false, true, true, false, false, true, true, true, false, false, false, false] rfl rfl (by kernel_rfl) (fun _ _ _ h => h) (Or.inl ⟨by rfl, ?_⟩) ?_ ?_
        rotate_left
        · intro w'
          go_simp
          with_reducible rfl
        rotate_left
        · simp only [Act.put, List.setIfInBounds_toArray, List.set_cons_zero, List.set_cons_succ, i64_w, i32_w]
          rfl
        refine take_ (i := 3) (N := some 54) (v := ?_) (a' := ?_) #[true, true, true, true, true, true, false, false, true, true, true, false, false, false, false] rfl rfl (by kernel_rfl) (fun _ _ _ h => h) (Or.inl ⟨by rfl, ?_⟩) hHeld ?_ ?_
        rotate_left
        · rintro w' ⟨s0, s1, s2⟩
          go_simp
          with_reducible rfl
        rotate_left
        · simp only [Act.put, List.setIfInBounds_toArray, List.set_cons_zero, List.set_cons_succ, i64_w, i32_w]
          rfl
        refine take_ (i := 6) (N := some 57) (v := ?_) (a' := ?_) #[true, true, true, true, true, true, true, false, true, true, true, false, false, false, false] rfl rfl (by kernel_rfl) (fun _ _ _ h => h) (Or.inl ⟨by rfl, ?_⟩) hHeld ?_ ?_
        rotate_left
        · rintro w' ⟨s0, s1, s2⟩
          go_simp
          with_reducible rfl
        rotate_left
        · simp only [Act.put, List.setIfInBounds_toArray, List.set_cons_zero, List.set_cons_succ, i64_w, i32_w]
          rfl
        refine pure_ (i := 7) (N := some 58) (v := ?_) (a' := ?_) #[true, true, true, true, true, true, true, true, true, true, true, false, false, false, false] rfl rfl (by kernel_rfl) (fun _ _ _ h => h) (Or.inl ⟨by rfl, ?_⟩) ?_ ?_
        rotate_left
        · intro w'
          go_simp
          with_reducible rfl
        rotate_left
        · simp only [Act.put, List.setIfInBounds_toArray, List.set_cons_zero, List.set_cons_succ, i64_w, i32_w]
          rfl
        refine take_ (i := 11) (N := some 62) (v := ?_) (a' := ?_) #[true, true, true, true, true, true, true, true, true, true, true, true, false, false, false] rfl rfl (by kernel_rfl) (fun _ _ _ h => h) (Or.inl ⟨by rfl, ?_⟩) hHeld ?_ ?_
        rotate_left
        · rintro w' ⟨s0, s1, s2⟩
          go_simp
          with_reducible rfl
        rotate_left
        · simp only [Act.put, List.setIfInBounds_toArray, List.set_cons_zero, List.set_cons_succ, i64_w, i32_w]
          rfl
        refine one_ (i := 12) (N := some 63) #[true, true, true, true, true, true, true, true, true, true, true, true, true, false, false] rfl rfl (by kernel_rfl) (by decide) (fun K hK => ?_)
        refine goes_ Try.func20 (by kernel_rfl) rfl #[.int .u32 (Go.bits .xor .u32 vp vq), .int .u64 12] (by rfl) rfl rfl (by simp only [List.map_toArray, List.map_cons, List.map_nil]; rfl) ?_
        with_reducible refine (left_12 HUX.out _).mono ?_
        rintro e w1 ⟨rfl, m, rfl⟩
        refine ⟨_, rfl, ?_⟩
        refine hK.out _ _ ⟨hHeld.1, hHeld.2.1, hHeld.2.2⟩ (fun hHeld => ?_)
        clear hK K
        refine norm_ (a' := ?_) ?_ ?_
        rotate_left
        · show Act.put _ (some 63) _ = _
          simp only [Act.put, List.setIfInBounds_toArray, List.set_cons_zero, List.set_cons_succ, i64_w, i32_w]
          rfl
        refine pure_ (i := 13) (N := some 64) (v := ?_) (a' := ?_) #[true, true, true, true, true, true, true, true, true, true, true, true, true, true, false] rfl rfl (by kernel_rfl) (fun _ _ _ h => h) (Or.inl ⟨by rfl, ?_⟩) ?_ ?_
        rotate_left
        · intro w'
          go_simp
          with_reducible rfl
        rotate_left
        · simp only [Act.put, List.setIfInBounds_toArray, List.set_cons_zero, List.set_cons_succ, i64_w, i32_w]
          rfl
        refine last_ (i := 14) (N := none) #[true, true, true, true, true, true, true, true, true, true, true, true, true, true, true] rfl rfl (by kernel_rfl) (by decide) (fun K hK => ?_)
        refine skip_ (w1 := ?_) (by rfl) rfl ?_ ?_
        rotate_left
        · go_simp
          rfl
        refine hK.out _ _ ?_
        clear hK K
        refine done_ (by kernel_rfl) ?_

        have n0 : IsArr ((W0.drewN (1 + m)).setCell ⟨g, b, none⟩ (.int .u32 (rl (Go.bits .xor .u32 vp vq) 12))) g 30 .u32 (qx y0 b c 12) := by
          have h := IsArr.set (HX.out.drewN (1 + m)) b (rl (Go.bits .xor .u32 vp vq) 12)
          rw [← HV.out.1, ← HV.out.2] at h ⊢
          exact h
        have n1 : IsArr ((W0.drewN (1 + m)).setCell ⟨g, b, none⟩ (.int .u32 (rl (Go.bits .xor .u32 vp vq) 12))) gr 30 .u32 z16 := (HR.out.drewN (1 + m)).far NXR.out _
        have n2 : IsArr ((W0.drewN (1 + m)).setCell ⟨g, b, none⟩ (.int .u32 (rl (Go.bits .xor .u32 vp vq) 12))) gy 35 .u64 byL := (HY.out.drewN (1 + m)).far NXY.out _
        have n3 := below_set (g := g) (j := b) (v := .int .u32 (rl (Go.bits .xor .u32 vp vq) 12)) (pw_below_drewN HB.out (1 + m)) LX.out
        generalize ((W0.drewN (1 + m)).setCell ⟨g, b, none⟩ (.int .u32 (rl (Go.bits .xor .u32 vp vq) 12))) = W1 at n0 n1 n2 n3 ⊢
        have HQ := Aside0.mk (show qs xs a b c d (1 + 1) = qx y0 b c 12 by rw [← HY0.out, ← HE.out]; rfl)
        clear hcp hcq hfp hcy HX HR HY HB HL HU HV
        go_wp2
        go_roundw
        case rel => exact ⟨1 + 1, by omega, by go_num, by rw [HQ.out]; exact n0, n1, n2, n3⟩
        case measure => simp [intOf] <;> omega
      · rw [show ((2 : Nat) : Int) = 2 from rfl]
        obtain ⟨vp, hvp⟩ : ∃ v, ys.getD a 0 = v := ⟨_, rfl⟩
        obtain ⟨vq, hvq⟩ : ∃ v, ys.getD b 0 = v := ⟨_, rfl⟩
        have hcp : wr.cell? ⟨g, a, none⟩ = some (.int .u32 vp) := by rw [← hvp]; exact HX.out.cell a (by rw [HL.out]; omega)
        have hcq : wr.cell? ⟨g, b, none⟩ = some (.int .u32 vq) := by rw [← hvq]; exact HX.out.cell b (by rw [HL.out]; omega)
        have hfp := HX.out.frozen a
        have HV := Aside0.mk (And.intro hvp hvq)
        clear hvp hvq
        go_wp2
        go_region
        have n0 : IsArr (wr.setCell ⟨g, a, none⟩ (.int .u32 ((vp + vq) % 4294967296))).drew g 30 .u32 (qa ys a b) := by
          have h := IsArr.set HX.out a ((vp + vq) % 4294967296)
          rw [← HV.out.1, ← HV.out.2] at h ⊢
          exact h.drew
        have n1 : IsArr (wr.setCell ⟨g, a, none⟩ (.int .u32 ((vp + vq) % 4294967296))).drew gr 30 .u32 z16 := (HR.out.far NXR.out _).drew
        have n2 : IsArr (wr.setCell ⟨g, a, none⟩ (.int .u32 ((vp + vq) % 4294967296))).drew gy 35 .u64 byL := (HY.out.far NXY.out _).drew
        have n3 := below_drew1 (below_set (g := g) (j := a) (v := .int .u32 ((vp + vq) % 4294967296)) HB.out LX.out)
        generalize (wr.setCell ⟨g, a, none⟩ (.int .u32 ((vp + vq) % 4294967296))).drew = W0 at n0 n1 n2 n3 ⊢
        obtain ⟨y0, hy⟩ : ∃ y, qa ys a b = y := ⟨_, rfl⟩
        rw [hy] at n0
        have m1 := Aside0.mk (show y0.length = 16 by rw [← hy, qa_length]; exact HL.out)
        have m2 := Aside0.mk (show AU y0 by rw [← hy]; exact qa_U HU.out _ _)
        have HY0 := Aside0.mk hy
        clear hcp hcq hfp HX HR HY HB HL HU HV hy
        have HX := Aside0.mk n0
        have HR := Aside0.mk n1
        have HY := Aside0.mk n2
        have HB := Aside0.mk n3
        have HL := m1
        have HU := m2
        clear n0 n1 n2 n3 m1 m2
        obtain ⟨vp, hvp⟩ : ∃ v, y0.getD d 0 = v := ⟨_, rfl⟩
        obtain ⟨vq, hvq⟩ : ∃ v, y0.getD a 0 = v := ⟨_, rfl⟩
        have hcp : W0.cell? ⟨g, d, none⟩ = some (.int .u32 vp) := by rw [← hvp]; exact HX.out.cell d (by rw [HL.out]; omega)
        have hcq : W0.cell? ⟨g, a, none⟩ = some (.int .u32 vq) := by rw [← hvq]; exact HX.out.cell a (by rw [HL.out]; omega)
        have hfp := HX.out.frozen d
        have HV := Aside0.mk (And.intro hvp hvq)
        have hcy : W0.cell? ⟨gy, 2, none⟩ = some (.int .u64 8) := HY.out.cell 2 (by decide)
        have HUX := Aside0.mk (show U (Go.bits .xor .u32 vp vq) by rw [← hvp, ← hvq]; exact (U_bits (HU.out.getD _) (HU.out.getD _)).2.2)
        clear hvp hvq
        go_wp2
        refine start_ (n := 15) (S := fun w' => w'.cell? ⟨g, d, none⟩ = some (.int .u32 vp) ∧ w'.cell? ⟨g, a, none⟩ = some (.int .u32 vq) ∧ w'.cell? ⟨gy, 2, none⟩ = some (.int .u64 8)) (ds := [14]) #[false, false, false, false, false, false, false, false, false, false, false, false, false, false, false] (by kernel_rfl) rfl rfl ⟨hcp, hcq, hcy⟩ (fun hHeld => ?_)
        refine pure_ (i := 0) (N := some 29) (v := ?_) (a' := ?_) #[true, false, false, false, false, false, false, false, false, false, false, false, false, false, false] rfl rfl (by kernel_rfl) (fun _ _ _ h => h) (Or.inl ⟨by rfl, ?_⟩) ?_ ?_
        rotate_left
        · intro w'
          go_simp
          with_reducible rfl
        rotate_left
        · simp only [Act.put, List.setIfInBounds_toArray, List.set_cons_zero, List.set_cons_succ, i64_w, i32_w]
          rfl
        refine pure_ (i := 1) (N := some 30) (v := ?_) (a' := ?_) #[true, true, false, false, false, false, false, false, false, false, false, false, false, false, false] rfl rfl (by kernel_rfl) (fun _ _ _ h => h) (Or.inl ⟨by rfl, ?_⟩) ?_ ?_
        rotate_left
        · intro w'
          go_simp
          with_reducible rfl
        rotate_left
        · simp only [Act.put, List.setIfInBounds_toArray, List.set_cons_zero, List.set_cons_succ, i64_w, i32_w]
          rfl
        refine pure_ (i := 2) (N := some 31) (v := ?_) (a' := ?_) #[true, true, true, false, false, false, false, false, false, false, false, false, false, false, false] rfl rfl (by kernel_rfl) (fun _ _ _ h => h) (Or.inl ⟨by rfl, ?_⟩) ?_ ?_
        rotate_left
        · intro w'
          go_simp
          with_reducible rfl
        rotate_left
        · simp only [Act.put, List.setIfInBounds_toArray, List.set_cons_zero, List.set_cons_succ, i64_w, i32_w]
          rfl
        refine pure_ (i := 4) (N := some 33) (v := ?_) (a' := ?_) #[true, true, true, false, true, false, false, false, false, false, false, false, false, false, false] rfl rfl (by kernel_rfl) (fun _ _ _ h => h) (Or.inl ⟨by rfl, ?_⟩) ?_ ?_
        rotate_left
        · intro w'
          go_simp
          with_reducible rfl
        rotate_left
        · simp only [Act.put, List.setIfInBounds_toArray, List.set_cons_zero, List.set_cons_succ, i64_w, i32_w]
          rfl
        refine pure_ (i := 5) (N := some 34) (v := ?_) (a' := ?_) #[true, true, true, false, true, true, false, false, false, false, false, false, false, false, false] rfl rfl (by kernel_rfl) (fun _ _ _ h => h) (Or.inl ⟨by rfl, ?_⟩) ?_ ?_
        rotate_left
        · intro w'
          go_simp
          with_reducible rfl
        rotate_left
        · simp only [Act.put, List.setIfInBounds_toArray, List.set_cons_zero, List.set_cons_succ, i64_w, i32_w]
          rfl
        refine pure_ (i := 8) (N := some 37) (v := ?_) (a' := ?_) #[true, true, true, false, true, true, false, false, true, false, false, false, false, false, false] rfl rfl (by kernel_rfl) (fun _ _ _ h => h) (Or.inl ⟨by rfl, ?_⟩) ?_ ?_
        rotate_left
        · intro w'
          go_simp
          with_reducible rfl
        rotate_left
        · simp only [Act.put, List.setIfInBounds_toArray, List.set_cons_zero, List.set_cons_succ, i64_w, i32_w]
          rfl
        refine pure_ (i := 9) (N := some 38) (v := ?_) (a' := ?_) #[true, true, true, false, true, true, false, false, true, true, false, false, false, false, false] rfl rfl (by kernel_rfl) (fun _ _ _ h => h) (Or.inl ⟨by rfl, ?_⟩) ?_ ?_
        rotate_left
        · intro w'
          go_simp
          with_reducible rfl
        rotate_left
        · simp only [Act.put, List.setIfInBounds_toArray, List.set_cons_zero, List.set_cons_succ, i64_w, i32_w]
          rfl
        refine pure_ (i := 10) (N := some 39) (v := ?_) (a' := ?_) #[true, true, true, false, true, true, false, false, true, true, true, false, false, false, false] rfl rfl (by kernel_rfl) (fun _ _ _ h => h) (Or.inl ⟨by rfl, ?_⟩) ?_ ?_
        rotate_left
        · intro w'
          go_simp
          with_reducible rfl
        rotate_left
        · simp only [Act.put, List.setIfInBounds_toArray, List.set_cons_zero, List.set_cons_succ, i64_w, i32_w]
          rfl
        refine take_ (i := 3) (N := some 32) (v := ?_) (a' := ?_) #[true, true, true, true, true, true, false, false, true, true, true, false, false, false, false] rfl rfl (by kernel_rfl) (fun _ _ _ h => h) (Or.inl ⟨by rfl, ?_⟩) hHeld ?_ ?_
        rotate_left
        · rintro w' ⟨s0, s1, s2⟩
          go_simp
          with_reducible rfl
        rotate_left
        · simp only [Act.put, List.setIfInBounds_toArray, List.set_cons_zero, List.set_cons_succ, i64_w, i32_w]
          rfl
        refine take_ (i := 6) (N := some 35) (v := ?_) (a' := ?_) #[true, true, true, true, true, true, true, false, true, true, true, false, false, false, false] rfl rfl (by kernel_rfl) (fun _ _ _ h => h) (Or.inl ⟨by rfl, ?_⟩) hHeld ?_ ?_
        rotate_left
        · rintro w' ⟨s0, s1, s2⟩
          go_simp
          with_reducible rfl
        rotate_left
        · simp only [Act.put, List.setIfInBounds_toArray, List.set_cons_zero, List.set_cons_succ, i64_w, i32_w]
          rfl
        refine pure_ (i := 7) (N := some 36) (v := ?_) (a' := ?_) #[true, true, true, true, true, true, true, true, true, true, true, false, false, false, false] rfl rfl (by kernel_rfl) (fun _ _ _ h => h) (Or.inl ⟨by rfl, ?_⟩) ?_ ?_
        rotate_left
        · intro w'
          go_simp
          with_reducible rfl
        rotate_left
        · simp only [Act.put, List.setIfInBounds_toArray, List.set_cons_zero, List.set_cons_succ, i64_w, i32_w]
          rfl
        refine take_ (i := 11) (N := some 40) (v := ?_) (a' := ?_) #[true, true, true, true, true, true, true, true, true, true, true, true, false, false, false] rfl rfl (by kernel_rfl) (fun _ _ _ h => h) (Or.inl ⟨by rfl, ?_⟩) hHeld ?_ ?_
        rotate_left
        · rintro w' ⟨s0, s1, s2⟩
          go_simp
          with_reducible rfl
        rotate_left
        · simp only [Act.put, List.setIfInBounds_toArray, List.set_cons_zero, List.set_cons_succ, i64_w, i32_w]
          rfl
        refine one_ (i := 12) (N := some 41) #[true, true, true, true, true, true, true, true, true, true, true, true, true, false, false] rfl rfl (by kernel_rfl) (by decide) (fun K hK => ?_)
        refine goes_ Try.func20 (by kernel_rfl) rfl #[.int .u32 (Go.bits .xor .u32 vp vq), .int .u64 8] (by rfl) rfl rfl (by simp only [List.map_toArray, List.map_cons, List.map_nil]; rfl) ?_
        with_reducible refine (left_8 HUX.out _).mono ?_
        rintro e w1 ⟨rfl, m, rfl⟩
        refine ⟨_, rfl, ?_⟩
        refine hK.out _ _ ⟨hHeld.1, hHeld.2.1, hHeld.2.2⟩ (fun hHeld => ?_)
        clear hK K
        refine norm_ (a' := ?_) ?_ ?_
        rotate_left
        · show Act.put _ (some 41) _ = _
          simp only [Act.put, List.setIfInBounds_toArray, List.set_cons_zero, List.set_cons_succ, i64_w, i32_w]
          rfl
        refine pure_ (i := 13) (N := some 42) (v := ?_) (a' := ?_) #[true, true, true, true, true, true, true, true, true, true, true, true, true, true, false] rfl rfl (by kernel_rfl) (fun _ _ _ h => h) (Or.inl ⟨by rfl, ?_⟩) ?_ ?_
        rotate_left
        · intro w'
          go_simp
          with_reducible rfl
        rotate_left
        · simp only [Act.put, List.setIfInBounds_toArray, List.set_cons_zero, List.set_cons_succ, i64_w, i32_w]
          rfl
        refine last_ (i := 14) (N := none) #[true, true, true, true, true, true, true, true, true, true, true, true, true, true, true] rfl rfl (by kernel_rfl) (by decide) (fun K hK => ?_)
        refine skip_ (w1 := ?_) (by rfl) rfl ?_ ?_
        rotate_left
        · go_simp
          rfl
        refine hK.out _ _ ?_
        clear hK K
        refine done_ (by kernel_rfl) ?_

        have n0 : IsArr ((W0.drewN (1 + m)).setCell ⟨g, d, none⟩ (.int .u32 (rl (Go.bits .xor .u32 vp vq) 8))) g 30 .u32 (qx y0 d a 8) := by
          have h := IsArr.set (HX.out.drewN (1 + m)) d (rl (Go.bits .xor .u32 vp vq) 8)
          rw [← HV.out.1, ← HV.out.2] at h ⊢
          exact h
        have n1 : IsArr ((W0.drewN (1 + m)).setCell ⟨g, d, none⟩ (.int .u32 (rl (Go.bits .xor .u32 vp vq) 8))) gr 30 .u32 z16 := (HR.out.drewN (1 + m)).far NXR.out _
        have n2 : IsArr ((W0.drewN (1 + m)).setCell ⟨g, d, none⟩ (.int .u32 (rl (Go.bits .xor .u32 vp vq) 8))) gy 35 .u64 byL := (HY.out.drewN (1 + m)).far NXY.out _
        have n3 := below_set (g := g) (j := d) (v := .int .u32 (rl (Go.bits .xor .u32 vp vq) 8)) (pw_below_drewN HB.out (1 + m)) LX.out
        generalize ((W0.drewN (1 + m)).setCell ⟨g, d, none⟩ (.int .u32 (rl (Go.bits .xor .u32 vp vq) 8))) = W1 at n0 n1 n2 n3 ⊢
        have HQ := Aside0.mk (show qs xs a b c d (2 + 1) = qx y0 d a 8 by rw [← HY0.out, ← HE.out]; rfl)
        clear hcp hcq hfp hcy HX HR HY HB HL HU HV
        go_wp2
        go_roundw
        case rel => exact ⟨2 + 1, by omega, by go_num, by rw [HQ.out]; exact n0, n1, n2, n3⟩
        case measure => simp [intOf] <;> omega
      · rw [show ((3 : Nat) : Int) = 3 from rfl]
        obtain ⟨vp, hvp⟩ : ∃ v, ys.getD c 0 = v := ⟨_, rfl⟩
        obtain ⟨vq, hvq⟩ : ∃ v, ys.getD d 0 = v := ⟨_, rfl⟩
        have hcp : wr.cell? ⟨g, c, none⟩ = some (.int .u32 vp) := by rw [← hvp]; exact HX.out.cell c (by rw [HL.out]; omega)
        have hcq : wr.cell? ⟨g, d, none⟩ = some (.int .u32 vq) := by rw [← hvq]; exact HX.out.cell d (by rw [HL.out]; omega)
        have hfp := HX.out.frozen c
        have HV := Aside0.mk (And.intro hvp hvq)
        clear hvp hvq
        go_wp2
        go_region
        have n0 : IsArr (wr.setCell ⟨g, c, none⟩ (.int .u32 ((vp + vq) % 4294967296))).drew g 30 .u32 (qa ys c d) := by
          have h := IsArr.set HX.out c ((vp + vq) % 4294967296)
          rw [← HV.out.1, ← HV.out.2] at h ⊢
          exact h.drew
        have n1 : IsArr (wr.setCell ⟨g, c, none⟩ (.int .u32 ((vp + vq) % 4294967296))).drew gr 30 .u32 z16 := (HR.out.far NXR.out _).drew
        have n2 : IsArr (wr.setCell ⟨g, c, none⟩ (.int .u32 ((vp + vq) % 4294967296))).drew gy 35 .u64 byL := (HY.out.far NXY.out _).drew
        have n3 := below_drew1 (below_set (g := g) (j := c) (v := .int .u32 ((vp + vq) % 4294967296)) HB.out LX.out)
        generalize (wr.setCell ⟨g, c, none⟩ (.int .u32 ((vp + vq) % 4294967296))).drew = W0 at n0 n1 n2 n3 ⊢
        obtain ⟨y0, hy⟩ : ∃ y, qa ys c d = y := ⟨_, rfl⟩
        rw [hy] at n0
        have m1 := Aside0.mk (show y0.length = 16 by rw [← hy, qa_length]; exact HL.out)
        have m2 := Aside0.mk (show AU y0 by rw [← hy]; exact qa_U HU.out _ _)
        have HY0 := Aside0.mk hy
        clear hcp hcq hfp HX HR HY HB HL HU HV hy
        have HX := Aside0.mk n0
        have HR := Aside0.mk n1
        have HY := Aside0.mk n2
        have HB := Aside0.mk n3
        have HL := m1
        have HU := m2
        clear n0 n1 n2 n3 m1 m2
        obtain ⟨vp, hvp⟩ : ∃ v, y0.getD b 0 = v := ⟨_, rfl⟩
        obtain ⟨vq, hvq⟩ : ∃ v, y0.getD c 0 = v := ⟨_, rfl⟩
        have hcp : W0.cell? ⟨g, b, none⟩ = some (.int .u32 vp) := by rw [← hvp]; exact HX.out.cell b (by rw [HL.out]; omega)
        have hcq : W0.cell? ⟨g, c, none⟩ = some (.int .u32 vq) := by rw [← hvq]; exact HX.out.cell c (by rw [HL.out]; omega)
        have hfp := HX.out.frozen b
        have HV := Aside0.mk (And.intro hvp hvq)
        have hcy : W0.cell? ⟨gy, 3, none⟩ = some (.int .u64 7) := HY.out.cell 3 (by decide)
        have HUX := Aside0.mk (show U (Go.bits .xor .u32 vp vq) by rw [← hvp, ← hvq]; exact (U_bits (HU.out.getD _) (HU.out.getD _)).2.2)
        clear hvp hvq
        go_wp2
        refine start_ (n := 15) (S := fun w' => w'.cell? ⟨g, b, none⟩ = some (.int .u32 vp) ∧ w'.cell? ⟨g, c, none⟩ = some (.int .u32 vq) ∧ w'.cell? ⟨gy, 3, none⟩ = some (.int .u64 7)) (ds := [14]) #[false, false, false, false, false, false, false, false, false, false, false, false, false, false, false] (by kernel_rfl) rfl rfl ⟨hcp, hcq, hcy⟩ (fun hHeld => ?_)
        refine pure_ (i := 0) (N := some 51) (v := ?_) (a' := ?_) #[true, false, false, false, false, false, false, false, false, false, false, false, false, false, false] rfl rfl (by kernel_rfl) (fun _ _ _ h => h) (Or.inl ⟨by rfl, ?_⟩) ?_ ?_
        rotate_left
        · intro w'
          go_simp
          with_reducible rfl
        rotate_left
        · simp only [Act.put, List.setIfInBounds_toArray, List.set_cons_zero, List.set_cons_succ, i64_w, i32_w]
          rfl
        refine pure_ (i := 1) (N := some 52) (v := ?_) (a' := ?_) #[true, true, false, false, false, false, false, false, false, false, false, false, false, false, false] rfl rfl (by kernel_rfl) (fun _ _ _ h => h) (Or.inl ⟨by rfl, ?_⟩) ?_ ?_
        rotate_left
        · intro w'
          go_simp
          with_reducible rfl
        rotate_left
        · simp only [Act.put, List.setIfInBounds_toArray, List.set_cons_zero, List.set_cons_succ, i64_w, i32_w]
          rfl
        refine pure_ (i := 2) (N := some 53) (v := ?_) (a' := ?_) #[true, true, true, false, false, false, false, false, false, false, false, false, false, false, false] rfl rfl (by kernel_rfl) (fun _ _ _ h => h) (Or.inl ⟨by rfl, ?_⟩) ?_ ?_
        rotate_left
        · intro w'
          go_simp
          with_reducible rfl
        rotate_left
        · simp only [Act.put, List.setIfInBounds_toArray, List.set_cons_zero, List.set_cons_succ, i64_w, i32_w]
          rfl
        refine pure_ (i := 4) (N := some 55) (v := ?_) (a' := ?_) #[true, true, true, false, true, false, false, false, false, false, false, false, false, false, false] rfl rfl (by kernel_rfl) (fun _ _ _ h => h) (Or.inl ⟨by rfl, ?_⟩) ?_ ?_
        rotate_left
        · intro w'
          go_simp
          with_reducible rfl
        rotate_left
        · simp only [Act.put, List.setIfInBounds_toArray, List.set_cons_zero, List.set_cons_succ, i64_w, i32_w]
          rfl
        refine pure_ (i := 5) (N := some 56) (v := ?_) (a' := ?_) #[true, true, true, false, true, true, false, false, false, false, false, false, false, false, false] rfl rfl (by kernel_rfl) (fun _ _ _ h => h) (Or.inl ⟨by rfl, ?_⟩) ?_ ?_
        rotate_left
        · intro w'
          go_simp
          with_reducible rfl
        rotate_left
        · simp only [Act.put, List.setIfInBounds_toArray, List.set_cons_zero, List.set_cons_succ, i64_w, i32_w]
          rfl
        refine pure_ (i := 8) (N := some 59) (v := ?_) (a' := ?_) #[true, true, true, false, true, true, false, false, true, false, false, false, false, false, false] rfl rfl (by kernel_rfl) (fun _ _ _ h => h) (Or.inl ⟨by rfl, ?_⟩) ?_ ?_
        rotate_left
        · intro w'
          go_simp
          with_reducible rfl
        rotate_left
        · simp only [Act.put, List.setIfInBounds_toArray, List.set_cons_zero, List.set_cons_succ, i64_w, i32_w]
          rfl
        refine pure_ (i := 9) (N := some 60) (v := ?_) (a' := ?_) #[true, true, true, false, true, true, false, false, true, true, false, false, false, false, false] rfl rfl (by kernel_rfl) (fun _ _ _ h => h) (Or.inl ⟨by rfl, ?_⟩) ?_ ?_
        rotate_left
        · intro w'
          go_simp
          with_reducible rfl
        rotate_left
        · simp only [Act.put, List.setIfInBounds_toArray, List.set_cons_zero, List.set_cons_succ, i64_w, i32_w]
          rfl
        refine pure_ (i := 10) (N := some 61) (v := ?_) (a' := ?_) #[true, true, true, false, true, true, false, false, true, true, true, false, false, false, false] rfl rfl (by kernel_rfl) (fun _ _ _ h => h) (Or.inl ⟨by rfl, ?_⟩) ?_ ?_
        rotate_left
        · intro w'
          go_simp
          with_reducible rfl
        rotate_left
        · simp only [Act.put, List.setIfInBounds_toArray, List.set_cons_zero, List.set_cons_succ, i64_w, i32_w]
          rfl
        refine take_ (i := 3) (N := some 54) (v := ?_) (a' := ?_) #[true, true, true, true, true, true, false, false, true, true, true, false, false, false, false] rfl rfl (by kernel_rfl) (fun _ _ _ h => h) (Or.inl ⟨by rfl, ?_⟩) hHeld ?_ ?_
        rotate_left
        · rintro w' ⟨s0, s1, s2⟩
          go_simp
          with_reducible rfl
        rotate_left
        · simp only [Act.put, List.setIfInBounds_toArray, List.set_cons_zero, List.set_cons_succ, i64_w, i32_w]
          rfl
        refine take_ (i := 6) (N := some 57) (v := ?_) (a' := ?_) #[true, true, true, true, true, true, true, false, true, true, true, false, false, false, false] rfl rfl (by kernel_rfl) (fun _ _ _ h => h) (Or.inl ⟨by rfl, ?_⟩) hHeld ?_ ?_
        rotate_left
        · rintro w' ⟨s0, s1, s2⟩
          go_simp
          with_reducible rfl
        rotate_left
        · simp only [Act.put, List.setIfInBounds_toArray, List.set_cons_zero, List.set_cons_succ, i64_w, i32_w]
          rfl
        refine pure_ (i := 7) (N := some 58) (v := ?_) (a' := ?_) #[true, true, true, true, true, true, true, true, true, true, true, false, false, false, false] rfl rfl (by kernel_rfl) (fun _ _ _ h => h) (Or.inl ⟨by rfl, ?_⟩) ?_ ?_
        rotate_left
        · intro w'
          go_simp
          with_reducible rfl
        rotate_left
        · simp only [Act.put, List.setIfInBounds_toArray, List.set_cons_zero, List.set_cons_succ, i64_w, i32_w]
          rfl
        refine take_ (i := 11) (N := some 62) (v := ?_) (a' := ?_) #[true, true, true, true, true, true, true, true, true, true, true, true, false, false, false] rfl rfl (by kernel_rfl) (fun _ _ _ h => h) (Or.inl ⟨by rfl, ?_⟩) hHeld ?_ ?_
        rotate_left
        · rintro w' ⟨s0, s1, s2⟩
          go_simp
          with_reducible rfl
        rotate_left
        · simp only [Act.put, List.setIfInBounds_toArray, List.set_cons_zero, List.set_cons_succ, i64_w, i32_w]
          rfl
        refine one_ (i := 12) (N := some 63) #[true, true, true, true, true, true, true, true, true, true, true, true, true, false, false] rfl rfl (by kernel_rfl) (by decide) (fun K hK => ?_)
        refine goes_ Try.func20 (by kernel_rfl) rfl #[.int .u32 (Go.bits .xor .u32 vp vq), .int .u64 7] (by rfl) rfl rfl (by simp only [List.map_toArray, List.map_cons, List.map_nil]; rfl) ?_
        with_reducible refine (left_7 HUX.out _).mono ?_
        rintro e w1 ⟨rfl, m, rfl⟩
        refine ⟨_, rfl, ?_⟩
        refine hK.out _ _ ⟨hHeld.1, hHeld.2.1, hHeld.2.2⟩ (fun hHeld => ?_)
        clear hK K
        refine norm_ (a' := ?_) ?_ ?_
        rotate_left
        · show Act.put _ (some 63) _ = _
          simp only [Act.put, List.setIfInBounds_toArray, List.set_cons_zero, List.set_cons_succ, i64_w, i32_w]
          rfl
        refine pure_ (i := 13) (N := some 64) (v := ?_) (a' := ?_) #[true, true, true, true, true, true, true, true, true, true, true, true, true, true, false] rfl rfl (by kernel_rfl) (fun _ _ _ h => h) (Or.inl ⟨by rfl, ?_⟩) ?_ ?_
        rotate_left
        · intro w'
          go_simp
          with_reducible rfl
        rotate_left
        · simp only [Act.put, List.setIfInBounds_toArray, List.set_cons_zero, List.set_cons_succ, i64_w, i32_w]
          rfl
        refine last_ (i := 14) (N := none) #[true, true, true, true, true, true, true, true, true, true, true, true, true, true, true] rfl rfl (by kernel_rfl) (by decide) (fun K hK => ?_)
        refine skip_ (w1 := ?_) (by rfl) rfl ?_ ?_
        rotate_left
        · go_simp
          rfl
        refine hK.out _ _ ?_
        clear hK K
        refine done_ (by kernel_rfl) ?_

        have n0 : IsArr ((W0.drewN (1 + m)).setCell ⟨g, b, none⟩ (.int .u32 (rl (Go.bits .xor .u32 vp vq) 7))) g 30 .u32 (qx y0 b c 7) := by
          have h := IsArr.set (HX.out.drewN (1 + m)) b (rl (Go.bits .xor .u32 vp vq) 7)
          rw [← HV.out.1, ← HV.out.2] at h ⊢
          exact h
        have n1 : IsArr ((W0.drewN (1 + m)).setCell ⟨g, b, none⟩ (.int .u32 (rl (Go.bits .xor .u32 vp vq) 7))) gr 30 .u32 z16 := (HR.out.drewN (1 + m)).far NXR.out _
        have n2 : IsArr ((W0.drewN (1 + m)).setCell ⟨g, b, none⟩ (.int .u32 (rl (Go.bits .xor .u32 vp vq) 7))) gy 35 .u64 byL := (HY.out.drewN (1 + m)).far NXY.out _
        have n3 := below_set (g := g) (j := b) (v := .int .u32 (rl (Go.bits .xor .u32 vp vq) 7)) (pw_below_drewN HB.out (1 + m)) LX.out
        generalize ((W0.drewN (1 + m)).setCell ⟨g, b, none⟩ (.int .u32 (rl (Go.bits .xor .u32 vp vq) 7))) = W1 at n0 n1 n2 n3 ⊢
        have HQ := Aside0.mk (show qs xs a b c d (3 + 1) = qx y0 b c 7 by rw [← HY0.out, ← HE.out]; rfl)
        clear hcp hcq hfp hcy HX HR HY HB HL HU HV
        go_wp2
        go_roundw
        case rel => exact ⟨3 + 1, by omega, by go_num, by rw [HQ.out]; exact n0, n1, n2, n3⟩
        case measure => simp [intOf] <;> omega
    · have ek : k = 4 := by omega
      subst ek
      rw [show ((4 : Nat) : Int) = 4 from rfl]
      have HQ := Aside0.mk (show q4 xs a b c d = ys from HE.out)
      go_wp2_with (first
        | ((with_reducible refine gate_dst (N := 65) rfl ?_); refine arr_load rfl 30 (.tmp 5) rfl g 16 22 .u32 ys rfl 30 HX.out Try.underlying30 (by rw [HL.out]; kernel_rfl) ?_)
        | ((with_reducible refine gate_store (t := 30) (p := 10) (v := .tmp 65) rfl ?_); refine arr_store rfl rfl 30 (.tmp 10) (.tmp 65) rfl gr .u32 z16 ys rfl rfl 30 HR.out (by rw [HL.out]; kernel_rfl) (by rw [HL.out]; rfl) ?_; intro w9 hx hs; have G1 := Aside0.mk (hs.below HB.out LR.out); have G2 := Aside0.mk hx; clear hx hs))
      exact bodyPost_ret (results_arr (k := .u32) rfl _ _ gr 16 22 ys 30 rfl G2.out Try.underlying30 (by rw [HL.out]; kernel_rfl)) rfl ⟨by rw [HQ.out], G1.out⟩
end Go.Proofs.Ytfomeaejhljahaa.Cha
