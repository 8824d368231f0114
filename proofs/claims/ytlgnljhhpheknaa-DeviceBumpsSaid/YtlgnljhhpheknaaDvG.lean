/- A device awake, and the law DeviceInput's own function, walked. -/
import Derived.Test.YtlgnljhhpheknaaDvF
namespace Go.Proofs.Ytlgnljhhpheknaa.Dv
open Go.RowKit Go.Proofs.YtlgnljhhpheknaaW.PrintWords Go.Proofs.YtlgnljhhpheknaaW.PrintLast Go.Proofs.YtlgnljhhpheknaaW.PrintMore Go.Proofs.Ytlgnljhhpheknaa.XB Go.Proofs.Ytlgnljhhpheknaa.PDeviceBumps
attribute [local go_sem] max2_int min2_int max_two min_two max_three min_three max_four min_four
set_option linter.unusedVariables false
set_option linter.unusedSimpArgs false
theorem nil48 (w : World) : Kd.C k48 w none 0 [] := ⟨rfl, by decide, fun h => absurd h (by decide)⟩
/-- a bump where no cut is planned -/
theorem bump_one (w : World) (d g : Nat) (key reg r : ByteArray) (n a : Int) (sv mv cv : Value) (lo hi : Nat) (hr : r.size = 33) (h : DevC w d key reg n g) (hd : DiskC w g sv mv (.slice none 0 0) a cv false) (hc : Cuts w cv [] lo hi)
    (hg : hi ≤ g) (hgd : g ≠ d) (a0 : 0 ≤ a) (a1 : a < 4611686018427387904) (n0 : 0 ≤ n) (n1 : n < 4611686018427387904) :
    Calls Try.prog 9 #[.pointer (some ⟨d, 0, none⟩), .string r] w fun e w' => e = .returned (.int .i64 0) ∧ DevC w' d key r (n + 1) g ∧ Upd (fun k => k = g ∨ k = d) w w' :=
  (bump_calls w d g key reg r n a sv mv cv [] lo hi hr h hd hc hg hgd a0 a1 n0 n1).mono fun e w' ⟨h1, h2, _, h4⟩ => ⟨h1, h2, h4⟩
set_option maxHeartbeats 8000000 in
set_option maxRecDepth 100000 in
theorem awake_calls (w : World) : Calls Try.prog 10 #[] w fun e w' => e = .returned (.bool true) ∧ Below w.heap.size w w' := by
  go_enter Try.func10, Try.ntmps10
  go_wp2_with (first | (go_at_call 8; fail))
  refine (made_calls none 0 0 [] w (nil48 w) (by decide)).mono ?_
  rintro e w1 ⟨d, g, sv, mv, cv, rfl, hg, hgd, hdev, hd, hc, hb⟩
  have HB := Aside0.mk hb
  have HV := Aside0.mk hdev
  have HD := Aside0.mk hd
  have HC := Aside0.mk hc
  clear hb hdev hd hc
  go_wp2_with (first | (go_at_call 7; fail))
  refine (word_calls 97 w1).mono ?_
  rintro e w2 ⟨rfl, hb⟩
  have HB2 := Aside0.mk hb
  clear hb
  go_wp2_with (first | (go_at_call 9; fail))
  refine (bump_one w2 d g K0 (wd 0) (wd 97) 0 0 sv mv cv w.heap.size g (wd_size 97) (blk_below HV.out HB2.out) (blk_below HD.out HB2.out) (Cuts.move HC.out (fun k _ hk => HB2.out.block k (Nat.lt_trans hk (blk_lt HD.out)))) (Nat.le_refl _) (Nat.ne_of_lt hgd) (by decide) (by decide) (by decide) (by decide)).mono ?_
  rintro e w3 ⟨rfl, hv, hu⟩
  have HV3 := Aside0.mk hv
  have HB3 := Aside0.mk (show Below w.heap.size w w3 from (below_step HB.out HB2.out).trans (hu.below (Nat.le_trans HB.out.size HB2.out.size) (fun k hk => by rcases hk with rfl | rfl <;> omega)))
  clear hv hu HB HV HD HC HB2
  go_wp2_with (first | (go_at_call 11; fail))
  refine (counter_calls w3 d g K0 (wd 97) (0 + 1) HV3.out).mono ?_
  rintro e w4 ⟨rfl, rfl⟩
  go_wp2_with (first | (go_at_call 12; fail))
  refine (register_calls w4 d g K0 (wd 97) (0 + 1) HV3.out).mono ?_
  rintro e w5 ⟨rfl, rfl⟩
  go_wp2_with (first | (go_at_call 7; fail))
  refine (word_calls 97 w5).mono ?_
  rintro e w6 ⟨rfl, hb⟩
  have HB6 := Aside0.mk (below_step HB3.out hb)
  clear hb
  go_wp2
  go_ret
  exact ⟨by simp, HB6.out⟩
/-- device.New: the error -/
theorem dnew_any (key : ByteArray) (g : Nat) (w : World) :
    Calls Try.prog 6 #[.string key, .pointer (some ⟨g, 0, none⟩)] w fun e w' => ∃ p ek, e = .returned (.tuple #[.pointer p, .int .i64 ek]) ∧ (key.size = 32 ∧ ek = 0 ∨ key.size ≠ 32 ∧ ek = 1) ∧ Below w.heap.size w w' := by
  by_cases h : key.size = 32
  · exact (dnew_calls key g h w).mono fun e w' ⟨d, h1, _, _, h4⟩ => ⟨_, 0, h1, .inl ⟨h, rfl⟩, h4⟩
  · refine (dnew_bad w key _ (.inl h)).mono fun e w' ⟨h1, h2⟩ => ⟨_, 1, h1, .inr ⟨h, rfl⟩, by rw [h2]; exact Below.refl _ _⟩
theorem bump_any (w : World) (d g : Nat) (key reg r : ByteArray) (sv mv cv : Value) (lo hi : Nat) (h : DevC w d key reg 0 g) (hd : DiskC w g sv mv (.slice none 0 0) 0 cv false) (hc : Cuts w cv [] lo hi)
    (hg : hi ≤ g) (hgd : g ≠ d) :
    Calls Try.prog 9 #[.pointer (some ⟨d, 0, none⟩), .string r] w fun e w' => ∃ er n' reg', e = .returned (.int .i64 er) ∧ (r.size = 33 ∧ er = 0 ∨ r.size ≠ 33 ∧ er = 1 ∧ n' = 0) ∧ DevC w' d key reg' n' g ∧ Upd (fun k => k = g ∨ k = d) w w' := by
  by_cases hr : r.size = 33
  · exact (bump_one w d g key reg r 0 0 sv mv cv lo hi hr h hd hc hg hgd (by decide) (by decide) (by decide) (by decide)).mono fun e w' ⟨h1, h2, h3⟩ => ⟨0, _, _, h1, .inl ⟨hr, rfl⟩, h2, h3⟩
  · exact (bump_bad w _ r hr).mono fun e w' ⟨h1, h2⟩ => ⟨1, 0, reg, h1, .inr ⟨hr, rfl, rfl⟩, by rw [h2]; exact h, by rw [h2]; exact Upd.refl _ _⟩
set_option maxHeartbeats 8000000 in
set_option maxRecDepth 100000 in
theorem input_law (key r : ByteArray) (hk : key.size ≤ 140737488351232) (hr : r.size ≤ 140737488351232) (w : World) : Calls Try.prog 3 #[.string key, .string r] w fun e w' => e = .returned (.bool true) ∧ Below w.heap.size w w' := by
  go_enter Try.func3, Try.ntmps3
  go_wp2_with (first | (go_at_call 5; fail))
  refine (new_calls 2 (by decide) (by decide) none 0 0 [] w (nil48 w) (by decide)).mono ?_
  rintro e w1 ⟨g, s, mv, cv, rfl, h1, h2, h3, hd, hs, hm, hc, hb⟩
  have HB := Aside0.mk hb
  clear hd hs hm hc hb h1 h2 h3
  go_wp2_with (first | (go_at_call 6; fail))
  refine (dnew_any key g w1).mono ?_
  rintro e w2 ⟨p, ek, rfl, hK, hb⟩
  have HK := Aside0.mk hK
  have HB2 := Aside0.mk (below_step HB.out hb)
  clear hK hb HB
  go_wp2_with (first | (go_at_call 7; fail))
  refine (word_calls 107 w2).mono ?_
  rintro e w3 ⟨rfl, hb⟩
  have HB3 := Aside0.mk (below_step HB2.out hb)
  have sz := wd_size 107
  clear hb HB2
  go_wp2_with (first | (go_at_call 6; fail))
  refine (dnew_bad w3 _ none (.inr rfl)).mono ?_
  rintro e w4 ⟨rfl, rfl⟩
  go_wp2_with (first | (go_at_call 8; fail))
  refine (made_calls none 0 0 [] w4 (nil48 w4) (by decide)).mono ?_
  rintro e w5 ⟨d, g2, sv2, mv2, cv2, rfl, hg, hgd, hdev, hd, hc, hb⟩
  have HB5 := Aside0.mk (below_step HB3.out hb)
  have LE := Aside0.mk (Nat.le_trans HB3.out.size hg)
  have HV := Aside0.mk hdev
  have HD := Aside0.mk hd
  have HC := Aside0.mk hc
  clear hb hdev hd hc HB3 sz hg
  go_wp2_with (first | (go_at_call 9; fail))
  refine (bump_any w5 d g2 K0 (wd 0) r sv2 mv2 cv2 _ g2 HV.out HD.out HC.out (Nat.le_refl _) (Nat.ne_of_lt hgd)).mono ?_
  rintro e w6 ⟨er, n', reg', rfl, hR, hv, hu⟩
  have HB := Aside0.mk (HB5.out.trans (hu.below HB5.out.size (fun k hk => by have := LE.out; rcases hk with rfl | rfl <;> omega)))
  have HV6 := Aside0.mk hv
  have HR := Aside0.mk hR
  clear hv hu hR HB5 HV HD HC LE
  go_wp2_with (first | (go_at_call 10; fail))
  refine (awake_calls w6).mono ?_
  rintro e w7 ⟨rfl, hb⟩
  have HB7 := Aside0.mk (below_step HB.out hb)
  have HV7 := Aside0.mk (show DevC w7 d K0 reg' n' g2 from blk_below HV6.out hb)
  clear hb HB HV6
  rcases HK.out with ⟨hk1, rfl⟩ | ⟨hk1, rfl⟩ <;> rcases HR.out with ⟨hr1, rfl⟩ | ⟨hr1, rfl, rfl⟩
  all_goals
    have x0 : decide ((key.size : Int) = 32) = decide (key.size = 32) := decide_eq_decide.mpr (by omega)
    have x1 : decide ((r.size : Int) = 33) = decide (r.size = 33) := decide_eq_decide.mpr (by omega)
    have x2 : ((key.size : Int) == 32) = decide (key.size = 32) := by rw [← x0]; rfl
    have x3 : ((r.size : Int) == 33) = decide (r.size = 33) := by rw [← x1]; rfl
    first | rw [decide_eq_true hk1] at x0 x2 | rw [decide_eq_false hk1] at x0 x2
    first | rw [decide_eq_true hr1] at x1 x3 | rw [decide_eq_false hr1] at x1 x3
    first | have k0 : (key.size : Int) = 32 := by omega | have k0 : ¬ (key.size : Int) = 32 := by omega
    first | have k1 : (r.size : Int) = 33 := by omega | have k1 : ¬ (r.size : Int) = 33 := by omega
    clear HK HR
    go_wp2_with (first
      | (go_at_call 11; (with_reducible refine (counter_calls w7 d g2 K0 reg' 0 HV7.out).mono ?_); rintro e w' ⟨rfl, e7⟩; have e8 := e7.symm; clear e7; subst e8)
      | (go_at_call 7; (with_reducible refine (word_calls 97 w7).mono ?_); rintro e w8 ⟨rfl, hb⟩; have HB8 := Aside0.mk (below_step HB7.out hb); clear hb)
      | (go_at_call 9; (with_reducible refine (bump_nil _ _).mono ?_); rintro e w' ⟨rfl, rfl⟩)
      | (go_at_call 11; (with_reducible refine (counter_nil _).mono ?_); rintro e w' ⟨rfl, rfl⟩)
      | (go_at_call 12; (with_reducible refine (register_nil _).mono ?_); rintro e w' ⟨rfl, rfl⟩)
      | (go_at_call 13; (with_reducible refine (key_nil _).mono ?_); rintro e w' ⟨rfl, rfl⟩))
    go_ret
    exact ⟨by first | rfl | simp [k0, k1] | simp_all, HB8.out⟩
end Go.Proofs.Ytlgnljhhpheknaa.Dv
