import Derived.Test.YtlahimndndlbiaaPWalSplitsx0
import Derived.Test.YtlahimndndlbiaaXB
namespace Go.Proofs.Ytlahimndndlbiaa.PWalSplits
open Go.RowKit Go.Proofs.YtlahimndndlbiaaW.PrintWords Go.Proofs.YtlahimndndlbiaaW.PrintLast Go.Proofs.YtlahimndndlbiaaW.PrintMore
attribute [local go_sem] max2_int min2_int max_two min_two max_three min_three max_four min_four   -- for this text's walks alone
set_option linter.unusedVariables false
set_option linter.unusedSimpArgs false

def wal_Blocks.f (a0 : ByteArray) : Option (Int) := some (mx (wrap64 (Int.tdiv (wrap64 ((wrap64 ((a0.size : Int) + 461)) - 1)) 461)) 1)
set_option maxHeartbeats 8000000 in
set_option maxRecDepth 100000 in
theorem wal_Blocks.calls (a0 : ByteArray) (r : Int) (w : World) (h : wal_Blocks.f a0 = some r) :
    Calls Try.prog 18 #[.string a0] w fun e w' => e = .returned (.int .i64 r) ∧ Below w.heap.size w w' := by
  have HB := Aside0.mk (Below.refl w.heap.size w)
  have H : (some (mx (wrap64 (Int.tdiv (wrap64 ((wrap64 ((a0.size : Int) + 461)) - 1)) 461)) 1)) = some r := h
  clear h
  obtain ⟨ji2, hji2⟩ : ∃ j_ : Int, (mx (wrap64 (Int.tdiv (wrap64 ((wrap64 ((a0.size : Int) + 461)) - 1)) 461)) 1) = j_ := ⟨_, rfl⟩
  replace H : (some ji2) = some r := by first | (rw [hji2] at H; exact H) | (simp only [hji2] at H ⊢; exact H)
  (try (have hji2l : 1 ≤ ji2 := by (rw [← hji2]; unfold mx; (repeat' split) <;> omega)))
  (try (have hji2m : 0 ≤ ji2 := by omega))
  have hji2_ : (if (wrap64 (Int.tdiv (wrap64 ((wrap64 ((a0.size : Int) + 461)) - 1)) 461)) < 1 then 1 else (wrap64 (Int.tdiv (wrap64 ((wrap64 ((a0.size : Int) + 461)) - 1)) 461))) = ji2 := hji2
  obtain rfl := Option.some.inj H
  go_enter Try.func18, Try.ntmps18
  go_wp2
  go_ret
  exact ⟨by first | rfl | (simp [errW_none, errW_some] <;> rfl) | (simp only [← hji2]; first | rfl | (simp [errW_none, errW_some] <;> rfl)) | (simp [*, errW_none, errW_some] <;> rfl), by repeat (first | (with_reducible first | exact HB.out | apply below_alloc | apply pw_below_drewN | apply below_drew1) | exact HB.out)⟩

end Go.Proofs.Ytlahimndndlbiaa.PWalSplits
