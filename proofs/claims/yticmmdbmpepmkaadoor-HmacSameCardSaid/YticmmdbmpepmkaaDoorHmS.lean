/- Whether two texts are the same: the law of it, walked. -/
import Derived.Test.YticmmdbmpepmkaaDoorPHmacSamex1
import Derived.Test.YticmmdbmpepmkaaDoorHmP
import Derived.Test.YticmmdbmpepmkaaDoorXM
namespace Go.Proofs.YticmmdbmpepmkaaDoor.HmS
open Go.RowKit Go.Proofs.YticmmdbmpepmkaaDoorW.PrintWords Go.Proofs.YticmmdbmpepmkaaDoorW.PrintLast Go.Proofs.YticmmdbmpepmkaaDoorW.PrintMore Go.Proofs.YticmmdbmpepmkaaDoor.XA Go.Proofs.YticmmdbmpepmkaaDoor.XB Go.Proofs.YticmmdbmpepmkaaDoor.XL Go.Proofs.YticmmdbmpepmkaaDoor.XM Go.Proofs.YticmmdbmpepmkaaDoor.Sha Go.Proofs.YticmmdbmpepmkaaDoor.PHmacSame
attribute [local go_sem] max2_int min2_int max_two min_two max_three min_three max_four min_four   -- for this text's walks alone
set_option linter.unusedVariables false
set_option linter.unusedSimpArgs false
/-! ### plain laws -/
theorem byte_bits {a b : Int} (ha : 0 ≤ a ∧ a ≤ 255) (hb : 0 ≤ b ∧ b ≤ 255) :
    (0 ≤ Go.bits .or .u8 a b ∧ Go.bits .or .u8 a b ≤ 255) ∧ (Go.bits .or .u8 a b = 0 ↔ a = 0 ∧ b = 0) ∧ (Go.bits .xor .u8 a b = 0 ↔ a = b) ∧ (Go.bits .xor .u8 a b = a ↔ b = 0) := by
  obtain ⟨x, rfl⟩ : ∃ n : Nat, a = n := ⟨a.toNat, by omega⟩
  obtain ⟨y, rfl⟩ : ∃ n : Nat, b = n := ⟨b.toNat, by omega⟩
  have hx : x < 2 ^ 8 := by omega
  have hy : y < 2 ^ 8 := by omega
  obtain ⟨_, h0, h1⟩ := bits_u .u8 _ _ x y rfl rfl (by simpa [IntKind.bits] using hx) (by simpa [IntKind.bits] using hy) rfl
  have ho : x ||| y < 2 ^ 8 := Nat.or_lt_two_pow hx hy
  have hoz : x ||| y = 0 ↔ x = 0 ∧ y = 0 := Nat.or_eq_zero_iff
  have hxz : x ^^^ y = 0 ↔ x = y := by
    constructor
    · intro h
      have h2 := congrArg (x ^^^ ·) h
      simpa [← Nat.xor_assoc] using h2.symm
    · rintro rfl; simp
  have hxy : x ^^^ y = x ↔ y = 0 := by
    constructor
    · intro h
      have h2 := congrArg (x ^^^ ·) h
      simpa [← Nat.xor_assoc] using h2
    · rintro rfl; simp
  rw [h0, h1]
  refine ⟨by omega, ?_, ?_, ?_⟩
  · rw [show ((x ||| y : Nat) : Int) = 0 ↔ x ||| y = 0 by omega, hoz]; omega
  · rw [show ((x ^^^ y : Nat) : Int) = 0 ↔ x ^^^ y = 0 by omega, hxz]; omega
  · rw [show ((x ^^^ y : Nat) : Int) = (x : Int) ↔ x ^^^ y = x by omega, hxy]; omega
theorem same_loop (a b : ByteArray) (n : Nat) (ha : a.size = n) (hb : b.size = n) (hn : n ≤ 400) :
    ∀ (d e i : Nat) (acc : Int), i + d = n → (0 ≤ acc ∧ acc ≤ 255) → ∃ r, hmac_Same.l0 (d + 1 + e) a b acc (n : Int) (i : Int) = some r ∧ (r = true ↔ acc = 0 ∧ ∀ j, i ≤ j → j < n → bt a (j : Int) = bt b (j : Int)) := by
  intro d
  induction d with
  | zero =>
    intro e i acc h hacc
    refine ⟨acc == 0, ?_, ?_⟩
    · rw [show 0 + 1 + e = e + 1 by omega, hmac_Same.l0, if_neg (by omega)]
    · rw [beq_iff_eq]
      exact ⟨fun h1 => ⟨h1, fun j h2 h3 => by omega⟩, fun h1 => h1.1⟩
  | succ d ih =>
    intro e i acc h hacc
    have hx := (xor8 (bt_range a (i : Int)) (bt_range b (i : Int))).1
    have hor := byte_bits hacc hx
    obtain ⟨r, h1, h2⟩ := ih e (i + 1) (Go.bits .or .u8 acc (Go.bits .xor .u8 (bt a (i : Int)) (bt b (i : Int)))) (by omega) hor.1
    refine ⟨r, ?_, ?_⟩
    · have hw : wrap64 ((i : Int) + 1) = ((i + 1 : Nat) : Int) := by rw [w64 (by omega) (by omega)]; omega
      rw [show d + 1 + 1 + e = (d + 1 + e) + 1 by omega, hmac_Same.l0, if_pos (by omega), if_pos (by omega), if_pos (by omega), if_pos (by omega), hw]
      exact h1
    · rw [h2, hor.2.1, (byte_bits (bt_range a (i : Int)) (bt_range b (i : Int))).2.2.1]
      constructor
      · rintro ⟨⟨h3, h4⟩, h5⟩
        refine ⟨h3, fun j h6 h7 => ?_⟩
        by_cases e : j = i
        · rw [e]; exact h4
        · exact h5 j (by omega) h7
      · rintro ⟨h3, h4⟩
        exact ⟨⟨h3, h4 i (Nat.le_refl _) (by omega)⟩, fun j h5 h6 => h4 j (by omega) h6⟩
theorem same_bytes (a b : ByteArray) (h : a.size = b.size) (hb : ∀ j, j < a.size → bt a (j : Int) = bt b (j : Int)) : a = b := by
  have e : bytesOf a = bytesOf b := by
    apply List.ext_getElem
    · rw [bytesOf_length, bytesOf_length, h]
    · intro i h1 h2
      have := hb i (by rw [bytesOf_length] at h1; exact h1)
      rw [bt_nat, bt_nat, List.getD_eq_getElem?_getD, List.getD_eq_getElem?_getD, List.getElem?_eq_getElem h1, List.getElem?_eq_getElem h2] at this
      exact this
  rw [← strOfNums_bytesOf a, ← strOfNums_bytesOf b, e]
theorem same_f (a b : ByteArray) (ha : a.size ≤ 400) (hb : b.size ≤ 400) : ∃ r, hmac_Same.f 500 a b = some r ∧ (r = true ↔ a = b) := by
  unfold hmac_Same.f
  by_cases c : a.size = b.size
  · obtain ⟨r, h1, h2⟩ := same_loop a b a.size rfl c.symm ha a.size (499 - a.size) 0 0 (by omega) (by omega)
    rw [show a.size + 1 + (499 - a.size) = 500 by omega] at h1
    refine ⟨r, by rw [if_pos (by omega)]; exact h1, ?_⟩
    rw [h2]
    constructor
    · rintro ⟨_, h3⟩
      exact same_bytes a b c (fun j hj => h3 j (Nat.zero_le _) hj)
    · rintro rfl
      exact ⟨rfl, fun _ _ _ => rfl⟩
  · refine ⟨false, by rw [if_neg (by omega)], ?_⟩
    constructor
    · intro h; cases h
    · rintro rfl; exact absurd rfl c
end Go.Proofs.YticmmdbmpepmkaaDoor.HmS
