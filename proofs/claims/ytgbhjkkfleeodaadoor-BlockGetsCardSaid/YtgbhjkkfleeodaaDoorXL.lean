import Derived.Test.YtgbhjkkfleeodaaDoorXB
namespace Go.Proofs.YtgbhjkkfleeodaaDoor.XL
open Go.RowKit Go.Proofs.YtgbhjkkfleeodaaDoorW.PrintWords Go.Proofs.YtgbhjkkfleeodaaDoorW.PrintMore Go.Proofs.YtgbhjkkfleeodaaDoor.XB
def setAll (f : Nat → Int) (l : List Int) : Nat → List Int
  | 0 => l
  | k + 1 => (setAll f l k).set k (f k)
theorem setAll_length (f : Nat → Int) (l : List Int) (k : Nat) : (setAll f l k).length = l.length := by
  induction k with
  | zero => rfl
  | succ k ih => rw [setAll, List.length_set, ih]
theorem setAll_high (f : Nat → Int) (l : List Int) (k j : Nat) (h : k ≤ j) : (setAll f l k).getD j 0 = l.getD j 0 := by
  induction k with
  | zero => rfl
  | succ k ih =>
    rw [setAll, List.getD_eq_getElem?_getD, List.getElem?_set_ne (by omega), ← List.getD_eq_getElem?_getD]
    exact ih (by omega)
theorem setAll_low (f : Nat → Int) (l : List Int) (k : Nat) : ∀ j, j < k → k ≤ l.length → (setAll f l k).getD j 0 = f j := by
  induction k with
  | zero => intro j h; omega
  | succ k ih =>
    intro j h hk
    rw [setAll, List.getD_eq_getElem?_getD]
    by_cases e : j = k
    · subst e
      rw [List.getElem?_set_self (by rw [setAll_length]; omega)]; rfl
    · rw [List.getElem?_set_ne (by omega), ← List.getD_eq_getElem?_getD]
      exact ih j (by omega) (by omega)
theorem setAll_full (f : Nat → Int) (l : List Int) : setAll f l l.length = (List.range l.length).map f := by
  apply List.ext_getElem
  · rw [setAll_length]; simp
  · intro i h1 h2
    have h3 := h1
    rw [setAll_length] at h3
    have h := setAll_low f l l.length i h3 (Nat.le_refl _)
    rw [List.getD_eq_getElem?_getD, List.getElem?_eq_getElem h1] at h
    rw [show (setAll f l l.length)[i] = f i from h]
    simp
theorem bt_nat (s : ByteArray) (j : Nat) : bt s (j : Int) = (bytesOf s).getD j 0 := by
  rw [← rd_bytesOf]; rfl
theorem bt_over (s : ByteArray) (j : Nat) (h : s.size ≤ j) : bt s (j : Int) = 0 := by
  rw [bt_nat, List.getD_eq_getElem?_getD, List.getElem?_eq_none (by rw [bytesOf_length]; exact h)]; rfl
theorem xor8 {a b : Int} (ha : 0 ≤ a ∧ a ≤ 255) (hb : 0 ≤ b ∧ b ≤ 255) : (0 ≤ Go.bits .xor .u8 a b ∧ Go.bits .xor .u8 a b ≤ 255) ∧ Go.bits .xor .u8 (Go.bits .xor .u8 a b) b = a := by
  obtain ⟨x, rfl⟩ : ∃ n : Nat, a = n := ⟨a.toNat, by omega⟩
  obtain ⟨y, rfl⟩ : ∃ n : Nat, b = n := ⟨b.toNat, by omega⟩
  have hx : x < 2 ^ 8 := by omega
  have hy : y < 2 ^ 8 := by omega
  have hz : x ^^^ y < 2 ^ 8 := Nat.xor_lt_two_pow hx hy
  obtain ⟨_, _, h1⟩ := bits_u .u8 _ _ x y rfl rfl (by simpa [IntKind.bits] using hx) (by simpa [IntKind.bits] using hy) rfl
  rw [h1]
  obtain ⟨_, _, h2⟩ := bits_u .u8 _ _ (x ^^^ y) y rfl rfl (by simpa [IntKind.bits] using hz) (by simpa [IntKind.bits] using hy) rfl
  rw [h2, Nat.xor_assoc, Nat.xor_self, Nat.xor_zero]
  exact ⟨by omega, rfl⟩
theorem byte_bits {a b : Int} (ha : 0 ≤ a ∧ a ≤ 255) (hb : 0 ≤ b ∧ b ≤ 255) :
    (0 ≤ Go.bits .or .u8 a b ∧ Go.bits .or .u8 a b ≤ 255) ∧ (Go.bits .or .u8 a b = 0 ↔ a = 0 ∧ b = 0) ∧ (Go.bits .xor .u8 a b = 0 ↔ a = b) ∧ (Go.bits .xor .u8 a b = a ↔ b = 0) := by
  obtain ⟨x, rfl⟩ : ∃ n : Nat, a = n := ⟨a.toNat, by omega⟩
  obtain ⟨y, rfl⟩ : ∃ n : Nat, b = n := ⟨b.toNat, by omega⟩
  have hx : x < 2 ^ 8 := by omega
  have hy : y < 2 ^ 8 := by omega
  obtain ⟨_, h0, h1⟩ := bits_u .u8 _ _ x y rfl rfl (by simpa [IntKind.bits] using hx) (by simpa [IntKind.bits] using hy) rfl
  have ho : x ||| y < 2 ^ 8 := Nat.or_lt_two_pow hx hy
  have hoz : x ||| y = 0 ↔ x = 0 ∧ y = 0 := Nat.or_eq_zero_iff
  have hxz : x ^^^ y = 0 ↔ x = y := by
    constructor
    · intro h
      have h2 := congrArg (x ^^^ ·) h
      simpa [← Nat.xor_assoc] using h2.symm
    · rintro rfl; simp
  have hxy : x ^^^ y = x ↔ y = 0 := by
    constructor
    · intro h
      have h2 := congrArg (x ^^^ ·) h
      simpa [← Nat.xor_assoc] using h2
    · rintro rfl; simp
  rw [h0, h1]
  refine ⟨by omega, ?_, ?_, ?_⟩
  · rw [show ((x ||| y : Nat) : Int) = 0 ↔ x ||| y = 0 by omega, hoz]; omega
  · rw [show ((x ^^^ y : Nat) : Int) = 0 ↔ x ^^^ y = 0 by omega, hxz]; omega
  · rw [show ((x ^^^ y : Nat) : Int) = (x : Int) ↔ x ^^^ y = x by omega, hxy]; omega
theorem same_bytes (a b : ByteArray) (h : a.size = b.size) (hb : ∀ j, j < a.size → bt a (j : Int) = bt b (j : Int)) : a = b := by
  have e : bytesOf a = bytesOf b := by
    apply List.ext_getElem
    · rw [bytesOf_length, bytesOf_length, h]
    · intro i h1 h2
      have := hb i (by rw [bytesOf_length] at h1; exact h1)
      rw [bt_nat, bt_nat, List.getD_eq_getElem?_getD, List.getD_eq_getElem?_getD, List.getElem?_eq_getElem h1, List.getElem?_eq_getElem h2] at this
      exact this
  rw [← strOfNums_bytesOf a, ← strOfNums_bytesOf b, e]
end Go.Proofs.YtgbhjkkfleeodaaDoor.XL
