/- The law DiskNone's own function, walked. -/
import Derived.Test.YtaomjdgdkdkibaaDkH
namespace Go.Proofs.Ytaomjdgdkdkibaa.Dk
open Go.RowKit Go.Proofs.YtaomjdgdkdkibaaW.PrintWords Go.Proofs.YtaomjdgdkdkibaaW.PrintLast Go.Proofs.YtaomjdgdkdkibaaW.PrintMore Go.Proofs.Ytaomjdgdkdkibaa.XB Go.Proofs.Ytaomjdgdkdkibaa.PDiskNone
attribute [local go_sem] max2_int min2_int max_two min_two max_three min_three max_four min_four
set_option linter.unusedVariables false
set_option linter.unusedSimpArgs false
theorem new_any (n : Int) (w : World) :
    Calls Try.prog 5 #[.int .i64 n, .slice none 0 0] w fun e w' => ∃ p er, e = .returned (.tuple #[.pointer p, .int .i64 er]) ∧ (1 ≤ n ∧ n ≤ 4096 ∧ er = 0 ∨ n < 1 ∧ er = 1 ∨ 1 ≤ n ∧ 4096 < n ∧ er = 1) ∧ Below w.heap.size w w' := by
  by_cases h1 : 1 ≤ n
  · by_cases h2 : n ≤ 4096
    · obtain ⟨m, rfl⟩ := Int.eq_ofNat_of_zero_le (show 0 ≤ n by omega)
      exact (new_disk m (by omega) (by omega) w).mono fun e w' ⟨p, A, c, e1, _, _, hb⟩ => ⟨_, 0, e1, .inl ⟨h1, h2, rfl⟩, hb⟩
    · exact (new_bad n (.inr (by omega)) none 0 0 w).mono fun e w' ⟨e1, hb⟩ => ⟨_, 1, e1, .inr (.inr ⟨h1, by omega, rfl⟩), hb⟩
  · exact (new_bad n (.inl (by omega)) none 0 0 w).mono fun e w' ⟨e1, hb⟩ => ⟨_, 1, e1, .inr (.inl ⟨by omega, rfl⟩), hb⟩
set_option maxHeartbeats 8000000 in
set_option maxRecDepth 100000 in
theorem none_law (n : Int) (s : ByteArray) (hs : s.size ≤ 140737488351232) (w : World) : Calls Try.prog 4 #[.int .i64 n, .string s] w fun e w' => e = .returned (.bool true) ∧ Below w.heap.size w w' := by
  go_enter Try.func4, Try.ntmps4
  go_wp2_with (first | (go_at_call 10; fail))
  refine (fail_nil 1 _).mono ?_
  rintro e w1 ⟨rfl, rfl⟩
  go_wp2_with (first | (go_at_call 11; fail))
  refine (up_nil _).mono ?_
  rintro e w2 ⟨rfl, rfl⟩
  go_wp2_with (first | (go_at_call 13; fail))
  refine (plan_nil n 1 _).mono ?_
  rintro e w3 ⟨rfl, rfl⟩
  go_wp2_with (first | (go_at_call 12; fail))
  refine (read_nil n _).mono ?_
  rintro e w4 ⟨rfl, rfl⟩
  go_wp2_with (first | (go_at_call 5; fail))
  refine (new_any n w4).mono ?_
  rintro e w5 ⟨p, er, rfl, hK, hb⟩
  have HK := Aside0.mk hK
  have HB := Aside0.mk hb
  clear hK hb
  go_wp2_with (first | (go_at_call 6; fail))
  refine (awake_calls w5).mono ?_
  rintro e w6 ⟨rfl, hb⟩
  have HB6 := Aside0.mk (below_step HB.out hb)
  clear hb HB
  have hK := HK.out
  clear HK
  rcases hK with ⟨h1, h2, rfl⟩ | ⟨h1, rfl⟩ | ⟨h1, h2, rfl⟩
  · have x1 : decide (1 ≤ n) = true := decide_eq_true h1
    have x2 : decide (n ≤ 4096) = true := decide_eq_true h2
    go_wp2_with (first
      | (go_at_call 14; (with_reducible refine (dead_nil _).mono ?_); rintro e w' ⟨rfl, rfl⟩)
      | (go_at_call 15; (with_reducible refine (blocks_nil _).mono ?_); rintro e w' ⟨rfl, rfl⟩)
      | (go_at_call 16; (with_reducible refine (acts_nil _).mono ?_); rintro e w' ⟨rfl, rfl⟩)
      | (go_at_call 17; (with_reducible refine (act_nil _).mono ?_); rintro e w' ⟨rfl, rfl⟩)
      | (go_at_call 7; (with_reducible refine (write_nil _ _ _).mono ?_); rintro e w' ⟨rfl, rfl⟩)
      | (go_at_call 9; (with_reducible refine (flush_nil _).mono ?_); rintro e w' ⟨rfl, rfl⟩)
      | (go_at_call 18; (with_reducible refine (poke_nil _ _ _).mono ?_); rintro e w' ⟨rfl, rfl⟩)
      | (go_at_call 19; (with_reducible refine (image_nil _).mono ?_); rintro e w' ⟨rfl, rfl⟩))
    go_ret
    exact ⟨by first | rfl | simp [h1, h2], HB6.out⟩
  · have x1 : decide (1 ≤ n) = false := decide_eq_false (by omega)
    have x2 : ¬ 1 ≤ n := by omega
    go_wp2_with (first
      | (go_at_call 14; (with_reducible refine (dead_nil _).mono ?_); rintro e w' ⟨rfl, rfl⟩)
      | (go_at_call 15; (with_reducible refine (blocks_nil _).mono ?_); rintro e w' ⟨rfl, rfl⟩)
      | (go_at_call 16; (with_reducible refine (acts_nil _).mono ?_); rintro e w' ⟨rfl, rfl⟩)
      | (go_at_call 17; (with_reducible refine (act_nil _).mono ?_); rintro e w' ⟨rfl, rfl⟩)
      | (go_at_call 7; (with_reducible refine (write_nil _ _ _).mono ?_); rintro e w' ⟨rfl, rfl⟩)
      | (go_at_call 9; (with_reducible refine (flush_nil _).mono ?_); rintro e w' ⟨rfl, rfl⟩)
      | (go_at_call 18; (with_reducible refine (poke_nil _ _ _).mono ?_); rintro e w' ⟨rfl, rfl⟩)
      | (go_at_call 19; (with_reducible refine (image_nil _).mono ?_); rintro e w' ⟨rfl, rfl⟩))
    go_ret
    exact ⟨by first | rfl | simp [x2], HB6.out⟩
  · have x1 : decide (1 ≤ n) = true := decide_eq_true h1
    have x2 : decide (n ≤ 4096) = false := decide_eq_false (by omega)
    have x3 : ¬ n ≤ 4096 := by omega
    go_wp2_with (first
      | (go_at_call 14; (with_reducible refine (dead_nil _).mono ?_); rintro e w' ⟨rfl, rfl⟩)
      | (go_at_call 15; (with_reducible refine (blocks_nil _).mono ?_); rintro e w' ⟨rfl, rfl⟩)
      | (go_at_call 16; (with_reducible refine (acts_nil _).mono ?_); rintro e w' ⟨rfl, rfl⟩)
      | (go_at_call 17; (with_reducible refine (act_nil _).mono ?_); rintro e w' ⟨rfl, rfl⟩)
      | (go_at_call 7; (with_reducible refine (write_nil _ _ _).mono ?_); rintro e w' ⟨rfl, rfl⟩)
      | (go_at_call 9; (with_reducible refine (flush_nil _).mono ?_); rintro e w' ⟨rfl, rfl⟩)
      | (go_at_call 18; (with_reducible refine (poke_nil _ _ _).mono ?_); rintro e w' ⟨rfl, rfl⟩)
      | (go_at_call 19; (with_reducible refine (image_nil _).mono ?_); rintro e w' ⟨rfl, rfl⟩))
    go_ret
    exact ⟨by first | rfl | simp [h1, x3], HB6.out⟩
end Go.Proofs.Ytaomjdgdkdkibaa.Dk
