import Derived.Test.YtgbhjkkfleeodaaDoorHmC
namespace Go.Proofs.YtgbhjkkfleeodaaDoor.Hm
open Go.RowKit Go.Proofs.YtgbhjkkfleeodaaDoorW.PrintWords Go.Proofs.YtgbhjkkfleeodaaDoorW.PrintMore Go.Proofs.YtgbhjkkfleeodaaDoor.XB
def pc (key p : ByteArray) : Nat → ByteArray
  | 0 => ⟨#[]⟩
  | j + 1 => tag key ((pc key p j ++ p) ++ strOfNums [((j + 1 : Nat) : Int)])
def pcs (key p : ByteArray) : Nat → ByteArray
  | 0 => ⟨#[]⟩
  | j + 1 => pcs key p j ++ pc key p (j + 1)
theorem pc_size (key p : ByteArray) (j : Nat) : (pc key p j).size ≤ 32 := by
  rcases j with _ | j
  · show (0 : Nat) ≤ 32; omega
  · rw [pc, tag_size]; omega
theorem pcs_size (key p : ByteArray) (j : Nat) : (pcs key p j).size = 32 * j := by
  induction j with
  | zero => rfl
  | succ j ih => rw [pcs, ByteArray.size_append, ih, pc, tag_size]; omega
def expd (key p : ByteArray) (n : Nat) : ByteArray := (pcs key p ((n + 31) / 32)).extract 0 n
theorem expd_size (key p : ByteArray) (n : Nat) : (expd key p n).size = n := by
  rw [expd, ByteArray.size_extract, pcs_size]; omega
end Go.Proofs.YtgbhjkkfleeodaaDoor.Hm
