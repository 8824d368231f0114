/- The document's words ahead of all, and whether all is right. -/
import Derived.Test.YtehmnbdeokjogaaDoorPShaRootsx1
import Derived.Test.YtehmnbdeokjogaaDoorShaX2
namespace Go.Proofs.YtehmnbdeokjogaaDoor.Sha
open Go.RowKit Go.Proofs.YtehmnbdeokjogaaDoorW.PrintWords Go.Proofs.YtehmnbdeokjogaaDoorW.PrintLast Go.Proofs.YtehmnbdeokjogaaDoorW.PrintMore Go.Proofs.YtehmnbdeokjogaaDoor.XA Go.Proofs.YtehmnbdeokjogaaDoor.XB Go.Proofs.YtehmnbdeokjogaaDoor.PShaRoots
set_option linter.unusedVariables false
set_option linter.unusedSimpArgs false
set_option maxRecDepth 100000 in
theorem primes_f : lodestoneref01_primes.f 20000 = some prL := by kernel_rfl
theorem salts_loop (j : Nat) : ∀ (d : Nat), j + d = 64 → ∀ e, lodestoneref01_Salts.l0 (d + 1 + e) ((prL.take j).map cubeN) prL (j : Int) = some (prL.map cubeN) := by
  intro d
  induction d generalizing j with
  | zero =>
    intro h e
    have hj : j = 64 := by omega
    subst hj
    rw [show 0 + 1 + e = e + 1 by omega, lodestoneref01_Salts.l0, if_neg (by omega)]
    rfl
  | succ d ih =>
    intro h e
    have hl : prL.length = 64 := rfl
    have hw : wrap64 ((j : Int) + 1) = ((j + 1 : Nat) : Int) := by rw [w64 (by omega) (by omega)]; omega
    have hr : rd prL (j : Int) = prL.getD j 0 := rfl
    rw [show d + 1 + 1 + e = (d + 1 + e) + 1 by omega, lodestoneref01_Salts.l0, if_pos (by omega), if_pos (by omega), if_pos (by rw [hl]; omega), lodestoneref01_cube.f, Option.bind_some, if_pos (by simp; omega), hw, hr]
    have ht : (prL.take j).map cubeN ++ [cubeN (prL.getD j 0)] = (prL.take (j + 1)).map cubeN := by
      rw [List.take_succ_eq_append_getElem (by rw [hl]; omega), List.map_append, List.getD_eq_getElem?_getD, List.getElem?_eq_getElem (by rw [hl]; omega)]
      rfl
    rw [ht]
    exact ih (j + 1) (by omega) e
theorem salts_f : lodestoneref01_Salts.f 20000 = some ssL := by
  unfold lodestoneref01_Salts.f
  rw [primes_f, Option.bind_some, ← cubes]
  exact salts_loop 0 64 (by omega) 19935
end Go.Proofs.YtehmnbdeokjogaaDoor.Sha
