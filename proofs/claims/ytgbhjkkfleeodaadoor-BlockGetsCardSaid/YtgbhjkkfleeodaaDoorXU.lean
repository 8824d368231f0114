import Derived.Test.YtgbhjkkfleeodaaDoorXI
import Derived.Test.YtgbhjkkfleeodaaDoorXB
namespace Go.Proofs.YtgbhjkkfleeodaaDoor.XU
open Go.RowKit Go.Proofs.YtgbhjkkfleeodaaDoor.XB Go.Proofs.YtgbhjkkfleeodaaDoorW.PrintWords Go.Proofs.YtgbhjkkfleeodaaDoorW.PrintMore
def U (x : Int) : Prop := 0 ≤ x ∧ x < 4294967296
theorem U_mod (x : Int) : U (x % 4294967296) := by unfold U; omega
theorem U_nat {x : Int} (h : U x) : ∃ n : Nat, x = n ∧ n < 4294967296 := ⟨x.toNat, by unfold U at h; omega, by unfold U at h; omega⟩
theorem U_bits {x y : Int} (hx : U x) (hy : U y) : U (Go.bits .and .u32 x y) ∧ U (Go.bits .or .u32 x y) ∧ U (Go.bits .xor .u32 x y) := by
  obtain ⟨a, rfl, ha⟩ := U_nat hx
  obtain ⟨b, rfl, hb⟩ := U_nat hy
  obtain ⟨h1, h2, h3⟩ := bits_u .u32 _ _ a b rfl rfl (by simpa [IntKind.bits] using ha) (by simpa [IntKind.bits] using hb) rfl
  rw [h1, h2, h3]
  have e1 : a &&& b < 2 ^ 32 := Nat.and_lt_two_pow _ (by omega)
  have e2 : a ||| b < 2 ^ 32 := Nat.or_lt_two_pow (by omega) (by omega)
  have e3 : a ^^^ b < 2 ^ 32 := Nat.xor_lt_two_pow (by omega) (by omega)
  unfold U
  omega
theorem or_add {x y : Int} (i : Nat) (hx : U x) (hy : U (y * 2 ^ i)) (h0 : 0 ≤ y) (hl : x < 2 ^ i) : Go.bits .or .u32 x (y * 2 ^ i) = x + y * 2 ^ i ∧ Go.bits .or .u32 (y * 2 ^ i) x = x + y * 2 ^ i := by
  obtain ⟨a, rfl, ha⟩ := U_nat hx
  obtain ⟨c, rfl⟩ : ∃ c : Nat, y = c := ⟨y.toNat, by omega⟩
  have e : ((c : Int) * 2 ^ i) = ((2 ^ i * c : Nat) : Int) := by rw [Int.natCast_mul, Int.natCast_pow, Int.mul_comm]; rfl
  have hb : 2 ^ i * c < 4294967296 := by unfold U at hy; rw [e] at hy; omega
  have hl2 : a < 2 ^ i := by
    have : ((2 : Int) ^ i) = ((2 ^ i : Nat) : Int) := by rw [Int.natCast_pow]; rfl
    rw [this] at hl; omega
  have h1 := Nat.two_pow_add_eq_or_of_lt hl2 c
  obtain ⟨_, h2, _⟩ := bits_u .u32 _ _ a (2 ^ i * c) rfl rfl (by simpa [IntKind.bits] using ha) (by simpa [IntKind.bits] using hb) rfl
  obtain ⟨_, h3, _⟩ := bits_u .u32 _ _ (2 ^ i * c) a rfl rfl (by simpa [IntKind.bits] using hb) (by simpa [IntKind.bits] using ha) rfl
  rw [e, h2, h3, ← h1, Nat.or_comm, ← h1]
  omega
def AU (xs : List Int) : Prop := ∀ x ∈ xs, U x
theorem AU.getD {xs : List Int} (h : AU xs) (i : Nat) : U (xs.getD i 0) := by
  rw [List.getD_eq_getElem?_getD]
  cases hq : xs[i]? with
  | none => exact ⟨by decide, by decide⟩
  | some x => exact h x (List.mem_of_getElem? hq)
theorem AU.set {xs : List Int} (h : AU xs) (i : Nat) {v : Int} (hv : U v) : AU (xs.set i v) := by
  intro x hx
  rcases List.mem_or_eq_of_mem_set hx with h1 | rfl
  · exact h x h1
  · exact hv
end Go.Proofs.YtgbhjkkfleeodaaDoor.XU
