/- Plain laws of turned bytes: turned twice they are what they were. -/
import Derived.Test.YtfomeaejhljahaaChaE
namespace Go.Proofs.Ytfomeaejhljahaa.Cha
open Go.RowKit Go.Proofs.YtfomeaejhljahaaW.PrintWords Go.Proofs.YtfomeaejhljahaaW.PrintMore Go.Proofs.Ytfomeaejhljahaa.XU Go.Proofs.Ytfomeaejhljahaa.XB
theorem xor8 {a b : Int} (ha : 0 ≤ a ∧ a ≤ 255) (hb : 0 ≤ b ∧ b ≤ 255) : (0 ≤ Go.bits .xor .u8 a b ∧ Go.bits .xor .u8 a b ≤ 255) ∧ Go.bits .xor .u8 (Go.bits .xor .u8 a b) b = a := by
  obtain ⟨x, rfl⟩ : ∃ n : Nat, a = n := ⟨a.toNat, by omega⟩
  obtain ⟨y, rfl⟩ : ∃ n : Nat, b = n := ⟨b.toNat, by omega⟩
  have hx : x < 2 ^ 8 := by omega
  have hy : y < 2 ^ 8 := by omega
  have hz : x ^^^ y < 2 ^ 8 := Nat.xor_lt_two_pow hx hy
  obtain ⟨_, _, h1⟩ := bits_u .u8 _ _ x y rfl rfl (by simpa [IntKind.bits] using hx) (by simpa [IntKind.bits] using hy) rfl
  rw [h1]
  obtain ⟨_, _, h2⟩ := bits_u .u8 _ _ (x ^^^ y) y rfl rfl (by simpa [IntKind.bits] using hz) (by simpa [IntKind.bits] using hy) rfl
  rw [h2, Nat.xor_assoc, Nat.xor_self, Nat.xor_zero]
  exact ⟨by omega, rfl⟩
theorem tb_range (key nonce s : ByteArray) (j : Nat) : 0 ≤ tb key nonce s j ∧ tb key nonce s j ≤ 255 := (xor8 (bt_range _ _) (bt_range _ _)).1
theorem tt_low (key nonce s : ByteArray) (k : Nat) : ∀ j, j < k → k ≤ s.size → (tt key nonce s k).getD j 0 = tb key nonce s j := by
  induction k with
  | zero => intro j h; omega
  | succ k ih =>
    intro j h hk
    rw [tt, List.getD_eq_getElem?_getD]
    by_cases e : j = k
    · subst e
      rw [List.getElem?_set_self (by rw [tt_length]; omega)]; rfl
    · rw [List.getElem?_set_ne (by omega), ← List.getD_eq_getElem?_getD]
      exact ih j (by omega) (by omega)
def tl (key nonce s : ByteArray) (n : Nat) : List Int := (List.range n).map (tb key nonce s)
theorem tl_length (key nonce s : ByteArray) (n : Nat) : (tl key nonce s n).length = n := by simp [tl]
theorem tl_succ (key nonce s : ByteArray) (n : Nat) : tl key nonce s (n + 1) = tl key nonce s n ++ [tb key nonce s n] := by simp [tl, List.range_succ]
theorem tt_full (key nonce s : ByteArray) : tt key nonce s s.size = tl key nonce s s.size := by
  apply List.ext_getElem
  · rw [tt_length, tl_length]
  · intro i h1 h2
    have h3 := h1
    rw [tt_length] at h3
    have h := tt_low key nonce s s.size i h3 (Nat.le_refl _)
    rw [List.getD_eq_getElem?_getD, List.getElem?_eq_getElem h1] at h
    rw [show (tt key nonce s s.size)[i] = tb key nonce s i from h]
    simp [tl]
theorem turned_tl (key nonce s : ByteArray) : turned key nonce s = strOfNums (tl key nonce s s.size) := by rw [turned, tt_full]
theorem turned_size (key nonce s : ByteArray) : (turned key nonce s).size = s.size := by rw [turned_tl, strOfNums_size, tl_length]
theorem bt_str (l : List Int) (hl : ∀ x ∈ l, 0 ≤ x ∧ x ≤ 255) (j : Nat) : bt (strOfNums l) j = l.getD j 0 := by
  rw [bt_nat, show bytesOf (strOfNums l) = l from ?_]
  unfold bytesOf
  rw [strOfNums_data, List.map_map]
  conv => rhs; rw [← List.map_id l]
  apply List.map_congr_left
  intro x hx
  have := hl x hx
  simp
  omega
theorem bt_turned (key nonce s : ByteArray) (j : Nat) (hj : j < s.size) : bt (turned key nonce s) j = tb key nonce s j := by
  rw [turned_tl, bt_str]
  · simp [tl, List.getD_eq_getElem?_getD, hj]
  · intro x hx
    simp only [tl, List.mem_map] at hx
    obtain ⟨i, _, rfl⟩ := hx
    exact tb_range _ _ _ _
theorem turned_twice (key nonce s : ByteArray) : turned key nonce (turned key nonce s) = s := by
  rw [turned_tl, turned_size]
  have e : tl key nonce (turned key nonce s) s.size = bytesOf s := by
    apply List.ext_getElem
    · rw [tl_length, bytesOf_length]
    · intro i h1 h2
      rw [tl_length] at h1
      have : tb key nonce (turned key nonce s) i = bt s i := by
        rw [tb, bt_turned key nonce s i h1]
        exact (xor8 (bt_range s i) (bt_range _ _)).2
      simp only [tl, List.getElem_map, List.getElem_range]
      rw [this, bt_nat, List.getD_eq_getElem?_getD, List.getElem?_eq_getElem h2]; rfl
  rw [e, strOfNums_bytesOf]
end Go.Proofs.Ytfomeaejhljahaa.Cha
