import Derived.Test.YtgbhjkkfleeodaaDoorHmC
namespace Go.Proofs.YtgbhjkkfleeodaaDoor.Hm
open Go.RowKit Go.Proofs.YtgbhjkkfleeodaaDoorW.PrintWords Go.Proofs.YtgbhjkkfleeodaaDoorW.PrintMore Go.Proofs.YtgbhjkkfleeodaaDoor.XB
def pc (key p : ByteArray) : Nat → ByteArray
  | 0 => ⟨#[]⟩
  | j + 1 => tag key ((pc key p j ++ p) ++ strOfNums [((j + 1 : Nat) : Int)])
def pcs (key p : ByteArray) : Nat → ByteArray
  | 0 => ⟨#[]⟩
  | j + 1 => pcs key p j ++ pc key p (j + 1)
theorem pc_size (key p : ByteArray) (j : Nat) : (pc key p j).size ≤ 32 := by
  rcases j with _ | j
  · show (0 : Nat) ≤ 32; omega
  · rw [pc, tag_size]; omega
theorem pcs_size (key p : ByteArray) (j : Nat) : (pcs key p j).size = 32 * j := by
  induction j with
  | zero => rfl
  | succ j ih => rw [pcs, ByteArray.size_append, ih, pc, tag_size]; omega
def expd (key p : ByteArray) (n : Nat) : ByteArray := (pcs key p ((n + 31) / 32)).extract 0 n
theorem expd_size (key p : ByteArray) (n : Nat) : (expd key p n).size = n := by
  rw [expd, ByteArray.size_extract, pcs_size]; omega
theorem pcs_pre (key p : ByteArray) (i j n : Nat) (h : i ≤ j) (hn : n ≤ 32 * i) : (pcs key p j).extract 0 n = (pcs key p i).extract 0 n := by
  induction j with
  | zero => rw [show i = 0 by omega]
  | succ j ih =>
    by_cases e : i = j + 1
    · rw [e]
    · rw [← ih (by omega)]
      apply eq_of_data
      rw [extract_data, extract_data, pcs, append_data, List.drop_zero, List.drop_zero, List.take_append_of_le_length]
      rw [data_len, pcs_size]; omega
theorem expd_pre (key p : ByteArray) (m n : Nat) (h : m ≤ n) : expd key p m = (expd key p n).extract 0 m := by
  unfold expd
  rw [← pcs_pre key p ((m + 31) / 32) ((n + 31) / 32) m (by omega) (by omega)]
  apply eq_of_data
  rw [extract_data, extract_data, extract_data]
  simp only [List.drop_zero, Nat.sub_zero, List.take_take, Nat.min_eq_left h]
end Go.Proofs.YtgbhjkkfleeodaaDoor.Hm
