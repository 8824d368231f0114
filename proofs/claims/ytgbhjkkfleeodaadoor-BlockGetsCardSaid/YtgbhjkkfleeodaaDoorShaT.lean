import Derived.Test.YtgbhjkkfleeodaaDoorShaP
import Derived.Test.YtgbhjkkfleeodaaDoorShaM
namespace Go.Proofs.YtgbhjkkfleeodaaDoor.Sha
open Go.RowKit Go.Proofs.YtgbhjkkfleeodaaDoorW.PrintWords Go.Proofs.YtgbhjkkfleeodaaDoorW.PrintLast Go.Proofs.YtgbhjkkfleeodaaDoorW.PrintMore Go.Proofs.YtgbhjkkfleeodaaDoor.XA Go.Proofs.YtgbhjkkfleeodaaDoor.XM
open Go.Proofs.YtgbhjkkfleeodaaDoor.XB
set_option linter.unusedVariables false
set_option linter.unusedSimpArgs false
def U (x : Int) : Prop := 0 ≤ x ∧ x < 4294967296
theorem U_mod (x : Int) : U (x % 4294967296) := by unfold U; omega
theorem U_nat {x : Int} (h : U x) : ∃ n : Nat, x = n ∧ n < 4294967296 := ⟨x.toNat, by unfold U at h; omega, by unfold U at h; omega⟩
theorem U_bits {x y : Int} (hx : U x) (hy : U y) : U (Go.bits .and .u32 x y) ∧ U (Go.bits .or .u32 x y) ∧ U (Go.bits .xor .u32 x y) := by
  obtain ⟨a, rfl, ha⟩ := U_nat hx
  obtain ⟨b, rfl, hb⟩ := U_nat hy
  obtain ⟨h1, h2, h3⟩ := bits_u .u32 _ _ a b rfl rfl (by simpa [IntKind.bits] using ha) (by simpa [IntKind.bits] using hb) rfl
  rw [h1, h2, h3]
  have e1 : a &&& b < 2 ^ 32 := Nat.and_lt_two_pow _ (by omega)
  have e2 : a ||| b < 2 ^ 32 := Nat.or_lt_two_pow (by omega) (by omega)
  have e3 : a ^^^ b < 2 ^ 32 := Nat.xor_lt_two_pow (by omega) (by omega)
  unfold U
  omega
theorem or_add {x y : Int} (i : Nat) (hx : U x) (hy : U (y * 2 ^ i)) (h0 : 0 ≤ y) (hl : x < 2 ^ i) : Go.bits .or .u32 x (y * 2 ^ i) = x + y * 2 ^ i ∧ Go.bits .or .u32 (y * 2 ^ i) x = x + y * 2 ^ i := by
  obtain ⟨a, rfl, ha⟩ := U_nat hx
  obtain ⟨c, rfl⟩ : ∃ c : Nat, y = c := ⟨y.toNat, by omega⟩
  have e : ((c : Int) * 2 ^ i) = ((2 ^ i * c : Nat) : Int) := by rw [Int.natCast_mul, Int.natCast_pow, Int.mul_comm]; rfl
  have hb : 2 ^ i * c < 4294967296 := by unfold U at hy; rw [e] at hy; omega
  have hl2 : a < 2 ^ i := by
    have : ((2 : Int) ^ i) = ((2 ^ i : Nat) : Int) := by rw [Int.natCast_pow]; rfl
    rw [this] at hl; omega
  have h1 := Nat.two_pow_add_eq_or_of_lt hl2 c
  obtain ⟨_, h2, _⟩ := bits_u .u32 _ _ a (2 ^ i * c) rfl rfl (by simpa [IntKind.bits] using ha) (by simpa [IntKind.bits] using hb) rfl
  obtain ⟨_, h3, _⟩ := bits_u .u32 _ _ (2 ^ i * c) a rfl rfl (by simpa [IntKind.bits] using hb) (by simpa [IntKind.bits] using ha) rfl
  rw [e, h2, h3, ← h1, Nat.or_comm, ← h1]
  omega
theorem xor_max {e : Int} (h : U e) : Go.bits .xor .u32 IntKind.u32.max e = 4294967295 - e := by
  obtain ⟨a, rfl, ha⟩ := U_nat h
  obtain ⟨_, _, h2⟩ := bits_u .u32 IntKind.u32.max _ 4294967295 a (by decide) rfl (by simp [IntKind.bits]) (by simpa [IntKind.bits] using ha) rfl
  rw [h2]
  have h3 : 4294967295 ^^^ a = 4294967295 - a := by
    have h4 := congrArg BitVec.toNat (BitVec.allOnes_xor (x := BitVec.ofNat 32 a))
    rw [BitVec.toNat_xor, BitVec.toNat_not, BitVec.toNat_allOnes, BitVec.toNat_ofNat, Nat.mod_eq_of_lt (by omega)] at h4
    simpa using h4
  rw [h3]
  omega
def trn (n : Int) (k : Nat) : Int := n / 2 ^ k + n * 2 ^ (32 - k) % 4294967296
theorem rot_2 {n : Int} (h : U n) : rot n 2 = trn n 2 := by
  unfold rot trn
  have e : n * 2 ^ (32 - 2) % 4294967296 = n % 4 * 2 ^ 30 := by simp only [Nat.reduceSub, Int.reducePow]; omega
  have e1 : n / 2 ^ 2 = n / 4 := by simp only [Int.reducePow]
  rw [e, e1]
  unfold U at h
  have := (or_add (x := n / 4) (y := n % 4) 30 (by unfold U; omega) (by unfold U; simp only [Int.reducePow]; omega) (by omega) (by simp only [Int.reducePow]; omega)).1
  rw [this]
  all_goals try simp only [Int.reducePow]
  all_goals omega
theorem rot_6 {n : Int} (h : U n) : rot n 6 = trn n 6 := by
  unfold rot trn
  have e : n * 2 ^ (32 - 6) % 4294967296 = n % 64 * 2 ^ 26 := by simp only [Nat.reduceSub, Int.reducePow]; omega
  have e1 : n / 2 ^ 6 = n / 64 := by simp only [Int.reducePow]
  rw [e, e1]
  unfold U at h
  have := (or_add (x := n / 64) (y := n % 64) 26 (by unfold U; omega) (by unfold U; simp only [Int.reducePow]; omega) (by omega) (by simp only [Int.reducePow]; omega)).1
  rw [this]
  all_goals try simp only [Int.reducePow]
  all_goals omega
theorem rot_7 {n : Int} (h : U n) : rot n 7 = trn n 7 := by
  unfold rot trn
  have e : n * 2 ^ (32 - 7) % 4294967296 = n % 128 * 2 ^ 25 := by simp only [Nat.reduceSub, Int.reducePow]; omega
  have e1 : n / 2 ^ 7 = n / 128 := by simp only [Int.reducePow]
  rw [e, e1]
  unfold U at h
  have := (or_add (x := n / 128) (y := n % 128) 25 (by unfold U; omega) (by unfold U; simp only [Int.reducePow]; omega) (by omega) (by simp only [Int.reducePow]; omega)).1
  rw [this]
  all_goals try simp only [Int.reducePow]
  all_goals omega
theorem rot_11 {n : Int} (h : U n) : rot n 11 = trn n 11 := by
  unfold rot trn
  have e : n * 2 ^ (32 - 11) % 4294967296 = n % 2048 * 2 ^ 21 := by simp only [Nat.reduceSub, Int.reducePow]; omega
  have e1 : n / 2 ^ 11 = n / 2048 := by simp only [Int.reducePow]
  rw [e, e1]
  unfold U at h
  have := (or_add (x := n / 2048) (y := n % 2048) 21 (by unfold U; omega) (by unfold U; simp only [Int.reducePow]; omega) (by omega) (by simp only [Int.reducePow]; omega)).1
  rw [this]
  all_goals try simp only [Int.reducePow]
  all_goals omega
theorem rot_13 {n : Int} (h : U n) : rot n 13 = trn n 13 := by
  unfold rot trn
  have e : n * 2 ^ (32 - 13) % 4294967296 = n % 8192 * 2 ^ 19 := by simp only [Nat.reduceSub, Int.reducePow]; omega
  have e1 : n / 2 ^ 13 = n / 8192 := by simp only [Int.reducePow]
  rw [e, e1]
  unfold U at h
  have := (or_add (x := n / 8192) (y := n % 8192) 19 (by unfold U; omega) (by unfold U; simp only [Int.reducePow]; omega) (by omega) (by simp only [Int.reducePow]; omega)).1
  rw [this]
  all_goals try simp only [Int.reducePow]
  all_goals omega
theorem rot_17 {n : Int} (h : U n) : rot n 17 = trn n 17 := by
  unfold rot trn
  have e : n * 2 ^ (32 - 17) % 4294967296 = n % 131072 * 2 ^ 15 := by simp only [Nat.reduceSub, Int.reducePow]; omega
  have e1 : n / 2 ^ 17 = n / 131072 := by simp only [Int.reducePow]
  rw [e, e1]
  unfold U at h
  have := (or_add (x := n / 131072) (y := n % 131072) 15 (by unfold U; omega) (by unfold U; simp only [Int.reducePow]; omega) (by omega) (by simp only [Int.reducePow]; omega)).1
  rw [this]
  all_goals try simp only [Int.reducePow]
  all_goals omega
theorem rot_18 {n : Int} (h : U n) : rot n 18 = trn n 18 := by
  unfold rot trn
  have e : n * 2 ^ (32 - 18) % 4294967296 = n % 262144 * 2 ^ 14 := by simp only [Nat.reduceSub, Int.reducePow]; omega
  have e1 : n / 2 ^ 18 = n / 262144 := by simp only [Int.reducePow]
  rw [e, e1]
  unfold U at h
  have := (or_add (x := n / 262144) (y := n % 262144) 14 (by unfold U; omega) (by unfold U; simp only [Int.reducePow]; omega) (by omega) (by simp only [Int.reducePow]; omega)).1
  rw [this]
  all_goals try simp only [Int.reducePow]
  all_goals omega
theorem rot_19 {n : Int} (h : U n) : rot n 19 = trn n 19 := by
  unfold rot trn
  have e : n * 2 ^ (32 - 19) % 4294967296 = n % 524288 * 2 ^ 13 := by simp only [Nat.reduceSub, Int.reducePow]; omega
  have e1 : n / 2 ^ 19 = n / 524288 := by simp only [Int.reducePow]
  rw [e, e1]
  unfold U at h
  have := (or_add (x := n / 524288) (y := n % 524288) 13 (by unfold U; omega) (by unfold U; simp only [Int.reducePow]; omega) (by omega) (by simp only [Int.reducePow]; omega)).1
  rw [this]
  all_goals try simp only [Int.reducePow]
  all_goals omega
theorem rot_22 {n : Int} (h : U n) : rot n 22 = trn n 22 := by
  unfold rot trn
  have e : n * 2 ^ (32 - 22) % 4294967296 = n % 4194304 * 2 ^ 10 := by simp only [Nat.reduceSub, Int.reducePow]; omega
  have e1 : n / 2 ^ 22 = n / 4194304 := by simp only [Int.reducePow]
  rw [e, e1]
  unfold U at h
  have := (or_add (x := n / 4194304) (y := n % 4194304) 10 (by unfold U; omega) (by unfold U; simp only [Int.reducePow]; omega) (by omega) (by simp only [Int.reducePow]; omega)).1
  rw [this]
  all_goals try simp only [Int.reducePow]
  all_goals omega
theorem rot_25 {n : Int} (h : U n) : rot n 25 = trn n 25 := by
  unfold rot trn
  have e : n * 2 ^ (32 - 25) % 4294967296 = n % 33554432 * 2 ^ 7 := by simp only [Nat.reduceSub, Int.reducePow]; omega
  have e1 : n / 2 ^ 25 = n / 33554432 := by simp only [Int.reducePow]
  rw [e, e1]
  unfold U at h
  have := (or_add (x := n / 33554432) (y := n % 33554432) 7 (by unfold U; omega) (by unfold U; simp only [Int.reducePow]; omega) (by omega) (by simp only [Int.reducePow]; omega)).1
  rw [this]
  all_goals try simp only [Int.reducePow]
  all_goals omega
theorem turn_2 {n : Int} (h : U n) (w : World) (m : Nat) : Calls Tryd.prog 68 #[.int .u32 n, .int .u64 2] (w.drewN m) fun e w'' => e = .returned (.int .u32 (rot n 2)) ∧ ∃ m, w'' = w.drewN m := by
  rw [rot_2 h]
  unfold U at h
  obtain ⟨h0, h1⟩ := h
  go_enter Tryd.func68, Tryd.ntmps68
  go_wp2
  go_ret
  exact ⟨by simp [trn] <;> omega, _, rfl⟩
theorem turn_6 {n : Int} (h : U n) (w : World) (m : Nat) : Calls Tryd.prog 68 #[.int .u32 n, .int .u64 6] (w.drewN m) fun e w'' => e = .returned (.int .u32 (rot n 6)) ∧ ∃ m, w'' = w.drewN m := by
  rw [rot_6 h]
  unfold U at h
  obtain ⟨h0, h1⟩ := h
  go_enter Tryd.func68, Tryd.ntmps68
  go_wp2
  go_ret
  exact ⟨by simp [trn] <;> omega, _, rfl⟩
theorem turn_7 {n : Int} (h : U n) (w : World) (m : Nat) : Calls Tryd.prog 68 #[.int .u32 n, .int .u64 7] (w.drewN m) fun e w'' => e = .returned (.int .u32 (rot n 7)) ∧ ∃ m, w'' = w.drewN m := by
  rw [rot_7 h]
  unfold U at h
  obtain ⟨h0, h1⟩ := h
  go_enter Tryd.func68, Tryd.ntmps68
  go_wp2
  go_ret
  exact ⟨by simp [trn] <;> omega, _, rfl⟩
theorem turn_11 {n : Int} (h : U n) (w : World) (m : Nat) : Calls Tryd.prog 68 #[.int .u32 n, .int .u64 11] (w.drewN m) fun e w'' => e = .returned (.int .u32 (rot n 11)) ∧ ∃ m, w'' = w.drewN m := by
  rw [rot_11 h]
  unfold U at h
  obtain ⟨h0, h1⟩ := h
  go_enter Tryd.func68, Tryd.ntmps68
  go_wp2
  go_ret
  exact ⟨by simp [trn] <;> omega, _, rfl⟩
theorem turn_13 {n : Int} (h : U n) (w : World) (m : Nat) : Calls Tryd.prog 68 #[.int .u32 n, .int .u64 13] (w.drewN m) fun e w'' => e = .returned (.int .u32 (rot n 13)) ∧ ∃ m, w'' = w.drewN m := by
  rw [rot_13 h]
  unfold U at h
  obtain ⟨h0, h1⟩ := h
  go_enter Tryd.func68, Tryd.ntmps68
  go_wp2
  go_ret
  exact ⟨by simp [trn] <;> omega, _, rfl⟩
theorem turn_17 {n : Int} (h : U n) (w : World) (m : Nat) : Calls Tryd.prog 68 #[.int .u32 n, .int .u64 17] (w.drewN m) fun e w'' => e = .returned (.int .u32 (rot n 17)) ∧ ∃ m, w'' = w.drewN m := by
  rw [rot_17 h]
  unfold U at h
  obtain ⟨h0, h1⟩ := h
  go_enter Tryd.func68, Tryd.ntmps68
  go_wp2
  go_ret
  exact ⟨by simp [trn] <;> omega, _, rfl⟩
theorem turn_18 {n : Int} (h : U n) (w : World) (m : Nat) : Calls Tryd.prog 68 #[.int .u32 n, .int .u64 18] (w.drewN m) fun e w'' => e = .returned (.int .u32 (rot n 18)) ∧ ∃ m, w'' = w.drewN m := by
  rw [rot_18 h]
  unfold U at h
  obtain ⟨h0, h1⟩ := h
  go_enter Tryd.func68, Tryd.ntmps68
  go_wp2
  go_ret
  exact ⟨by simp [trn] <;> omega, _, rfl⟩
theorem turn_19 {n : Int} (h : U n) (w : World) (m : Nat) : Calls Tryd.prog 68 #[.int .u32 n, .int .u64 19] (w.drewN m) fun e w'' => e = .returned (.int .u32 (rot n 19)) ∧ ∃ m, w'' = w.drewN m := by
  rw [rot_19 h]
  unfold U at h
  obtain ⟨h0, h1⟩ := h
  go_enter Tryd.func68, Tryd.ntmps68
  go_wp2
  go_ret
  exact ⟨by simp [trn] <;> omega, _, rfl⟩
theorem turn_22 {n : Int} (h : U n) (w : World) (m : Nat) : Calls Tryd.prog 68 #[.int .u32 n, .int .u64 22] (w.drewN m) fun e w'' => e = .returned (.int .u32 (rot n 22)) ∧ ∃ m, w'' = w.drewN m := by
  rw [rot_22 h]
  unfold U at h
  obtain ⟨h0, h1⟩ := h
  go_enter Tryd.func68, Tryd.ntmps68
  go_wp2
  go_ret
  exact ⟨by simp [trn] <;> omega, _, rfl⟩
theorem turn_25 {n : Int} (h : U n) (w : World) (m : Nat) : Calls Tryd.prog 68 #[.int .u32 n, .int .u64 25] (w.drewN m) fun e w'' => e = .returned (.int .u32 (rot n 25)) ∧ ∃ m, w'' = w.drewN m := by
  rw [rot_25 h]
  unfold U at h
  obtain ⟨h0, h1⟩ := h
  go_enter Tryd.func68, Tryd.ntmps68
  go_wp2
  go_ret
  exact ⟨by simp [trn] <;> omega, _, rfl⟩
end Go.Proofs.YtgbhjkkfleeodaaDoor.Sha
