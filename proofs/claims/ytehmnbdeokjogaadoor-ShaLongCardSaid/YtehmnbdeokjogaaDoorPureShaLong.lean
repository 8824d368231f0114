import Derived.Test.YtehmnbdeokjogaaDoorPShaLongx1
namespace Go.Proofs.YtehmnbdeokjogaaDoor.Pure
open Go.RowKit Go.Proofs.YtehmnbdeokjogaaDoor.PShaLong Go.Proofs.YtehmnbdeokjogaaDoorW.PrintWords Go.Proofs.YtehmnbdeokjogaaDoorW.PrintLast
theorem long_sum (x : ByteArray) (h : x.size ≤ 1000) : sha_Sum.f x = some (Sha.dig x) := if_pos (by omega)
theorem long_ref (x : ByteArray) (h : x.size ≤ 1000) : lodestoneref01_Sum.f x = some (Sha.dig x) := if_pos (by omega)
theorem long_awake : lodestonelaw01_awake.f = some true := by
  unfold lodestonelaw01_awake.f
  rw [long_sum _ (by decide), Option.bind_some, Sha.dig_abc]
  kernel_rfl
theorem long_loop (x1 : Int) : ∀ (d : Nat) (x5 : List Int) (x6 : Int), 0 ≤ x6 → x6 + d = (x5.length : Int) → x5.length ≤ 255 → lodestonelaw01_ShaLong.l0 (d + 1) x1 x5 x6 = some true := by
  intro d
  induction d with
  | zero =>
    intro x5 x6 h0 h1 h2
    have hs : (strOfNums x5).size ≤ 1000 := by rw [strOfNums_size]; omega
    rw [lodestonelaw01_ShaLong.l0, if_neg (by omega), long_awake, Option.bind_some, if_pos rfl, long_sum _ hs, Option.bind_some, long_ref _ hs, Option.bind_some]
    simp
  | succ d ih =>
    intro x5 x6 h0 h1 h2
    rw [lodestonelaw01_ShaLong.l0, if_pos (by omega), if_pos h0]
    have hw : wrap64 (x6 + 1) = x6 + 1 := by unfold wrap64; omega
    rw [hw]
    exact ih _ _ (by omega) (by rw [List.length_set]; omega) (by rw [List.length_set]; exact h2)
theorem and_255 (n : Int) : 0 ≤ Go.bits .and .i64 n 255 ∧ Go.bits .and .i64 n 255 ≤ 255 := by
  have h255 : (BitVec.ofInt 64 255).toNat = 2 ^ 8 - 1 := by decide
  have key : (BitVec.ofInt 64 n &&& BitVec.ofInt 64 255).toNat = (n % ((2 ^ 64 : Nat) : Int)).toNat % 2 ^ 8 := by
    rw [BitVec.toNat_and, BitVec.toNat_ofInt, h255, Nat.and_two_pow_sub_one_eq_mod]
  have e : Go.bits .and .i64 n 255 = n % 256 := by
    show IntKind.i64.wrap ((BitVec.ofInt 64 n &&& BitVec.ofInt 64 255).toNat : Nat) = n % 256
    rw [key, IntKind.wrap_i64]
    omega
  rw [e]
  omega
theorem ShaLong : lodestonelaw01_ShaLong.Pure := by
  intro a0 a1 h0 h1
  obtain ⟨hb0, hb1⟩ := and_255 a0
  obtain ⟨m, hm⟩ : ∃ m : Nat, Go.bits .and .i64 a0 255 = m := ⟨(Go.bits .and .i64 a0 255).toNat, by omega⟩
  refine ⟨m + 1, ?_⟩
  unfold lodestonelaw01_ShaLong.f
  rw [hm, if_pos (by omega), if_pos (by omega)]
  exact long_loop a1 m _ 0 (by omega) (by simp) (by simp; omega)
end Go.Proofs.YtehmnbdeokjogaaDoor.Pure
