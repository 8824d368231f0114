/- RingWalks, the plain law: walking n places on, one by one, comes where On tells, and Far tells how far back; for every ring of 1 to 32 places. -/
import Derived.Test.YtabpbmogbcjciaaPRingWalksx2
namespace Go.Proofs.Ytabpbmogbcjciaa.Pure
open Go.RowKit Go.Proofs.Ytabpbmogbcjciaa.PRingWalks

theorem emod_big (x : Int) (N : Nat) (hd : N ∣ 18446744073709551616) : (((BitVec.ofInt 64 x).toNat % N : Nat) : Int) = x % (N : Int) := by
  have h : (((BitVec.ofInt 64 x).toNat : Nat) : Int) = x % 18446744073709551616 := by
    rw [BitVec.toNat_ofInt]
    exact Int.toNat_of_nonneg (Int.emod_nonneg _ (by decide))
  rw [Int.natCast_emod, h]
  exact Int.emod_emod_of_dvd _ (Int.natCast_dvd_natCast.mpr hd)

theorem and_mask64 (x : Int) (i : Nat) (hd : 2 ^ i ∣ 18446744073709551616) (hle : 2 ^ i ≤ 4611686018427387904) : Go.bits .and .i64 x ((2 ^ i - 1 : Nat) : Int) = x % ((2 ^ i : Nat) : Int) := by
  have hpos : 0 < 2 ^ i := Nat.two_pow_pos i
  show IntKind.i64.wrap (((BitVec.ofInt 64 x &&& BitVec.ofInt 64 ((2 ^ i - 1 : Nat) : Int)).toNat : Nat) : Int) = _
  rw [BitVec.toNat_and]
  have h1 : (BitVec.ofInt 64 ((2 ^ i - 1 : Nat) : Int)).toNat = 2 ^ i - 1 := by
    rw [BitVec.ofInt_natCast, BitVec.toNat_ofNat]
    exact Nat.mod_eq_of_lt (Nat.lt_of_lt_of_le (Nat.lt_of_lt_of_le (Nat.sub_lt hpos Nat.one_pos) hle) (by decide))
  rw [h1, Nat.and_two_pow_sub_one_eq_mod, emod_big x _ hd, IntKind.wrap_i64]
  have h2 := Int.emod_nonneg x (show ((2 ^ i : Nat) : Int) ≠ 0 by omega)
  have h3 := Int.emod_lt_of_pos x (show (0 : Int) < ((2 ^ i : Nat) : Int) by omega)
  have h4 : ((2 ^ i : Nat) : Int) ≤ 4611686018427387904 := Int.ofNat_le.mpr hle
  generalize x % ((2 ^ i : Nat) : Int) = y at *
  generalize ((2 ^ i : Nat) : Int) = N at *
  omega

theorem and63 (x : Int) : Go.bits .and .i64 x 63 = x % 64 := and_mask64 x 6 (by decide) (by decide)
theorem and31 (x : Int) : Go.bits .and .i64 x 31 = x % 32 := and_mask64 x 5 (by decide) (by decide)
theorem and1023 (x : Int) : Go.bits .and .i64 x 1023 = x % 1024 := and_mask64 x 10 (by decide) (by decide)
theorem and127 (x : Int) : Go.bits .and .i64 x 127 = x % 128 := and_mask64 x 7 (by decide) (by decide)

theorem awake_true : lodestonelaw14_awake.f = some true := by decide +kernel

theorem w64 {x : Int} (h0 : -9223372036854775808 ≤ x) (h1 : x < 9223372036854775808) : wrap64 x = x := by unfold wrap64; omega

/-- the place i places behind one, in a ring -/
theorem tm {a b : Int} (ha : 0 ≤ a) : Int.tmod a b = a % b := Int.tmod_eq_emod_of_nonneg ha

theorem may_true (F L p : Int) (hF : 0 ≤ F ∧ F ≤ 4096) (hL : 1 ≤ L ∧ L ≤ 4096) (hp : F ≤ p ∧ p < F + L) : ring_May.f F L p = some true := by
  unfold ring_May.f
  rw [if_pos (by omega), if_pos (by omega), if_pos (by omega), if_pos (by omega), if_pos (by omega), w64 (by omega) (by omega), decide_eq_true (by omega)]

theorem loop (F L o n : Int) (hF : 0 ≤ F ∧ F ≤ 63) (hL : 1 ≤ L ∧ L ≤ 32) (ho : 0 ≤ o ∧ o < L) (hn : 0 ≤ n ∧ n ≤ 127) (d : Nat) :
    ∀ (k : Nat) (i q : Int), 0 ≤ i → i ≤ n → n - i = d → d < k → q = (o + i) % L →
      lodestonelaw14_RingWalks.l0 k (F + o) n (F + q) i F L = some true := by
  induction d with
  | zero =>
    intro k i q h0 h1 hd hk hq
    obtain ⟨k, rfl⟩ : ∃ m, k = m + 1 := ⟨k - 1, by omega⟩
    obtain rfl : i = n := by omega
    have hq0 : 0 ≤ q := by rw [hq]; exact Int.emod_nonneg _ (by omega)
    have hq1 : q < L := by rw [hq]; exact Int.emod_lt_of_pos _ (by omega)
    have hi0 := Int.emod_nonneg i (show L ≠ 0 by omega)
    have hi1 := Int.emod_lt_of_pos i (show 0 < L by omega)
    have hon : ring_On.f F L (F + o) i = some (F + q) := by
      unfold ring_On.f
      rw [may_true F L (F + o) (by omega) (by omega) (by omega)]
      simp only [Option.bind_some, if_true]
      rw [if_neg (by omega), if_neg (by omega), tm h0, w64 (x := F + o - F) (by omega) (by omega), show F + o - F = o by omega,
        w64 (x := o + i % L) (by omega) (by omega), tm (by omega), Int.add_emod_emod, ← hq, w64 (by omega) (by omega)]
    have hfar : ring_Far.f F L (F + o) (F + q) = some (i % L) := by
      unfold ring_Far.f
      rw [may_true F L (F + o) (by omega) (by omega) (by omega), may_true F L (F + q) (by omega) (by omega) (by omega)]
      simp only [Option.bind_some, if_true]
      rw [if_neg (by omega), w64 (x := F + q - (F + o)) (by omega) (by omega), w64 (by omega) (by omega), tm (by omega)]
      congr 1
      rw [show F + q - (F + o) + L = q - o + L by omega, Int.add_emod_right, hq, Int.emod_sub_emod, show o + i - o = i by omega]
    unfold lodestonelaw14_RingWalks.l0
    rw [if_neg (by omega), awake_true, hon]
    simp only [Option.bind_some, if_true]
    rw [hfar]
    simp only [Option.bind_some]
    rw [if_neg (by omega), tm h0, if_pos rfl, may_true F L (F + o) (by omega) (by omega) (by omega)]
    rfl
  | succ d ih =>
    intro k i q h0 h1 hd hk hq
    obtain ⟨k, rfl⟩ : ∃ m, k = m + 1 := ⟨k - 1, by omega⟩
    have hq0 : 0 ≤ q := by rw [hq]; exact Int.emod_nonneg _ (by omega)
    have hq1 : q < L := by rw [hq]; exact Int.emod_lt_of_pos _ (by omega)
    unfold lodestonelaw14_RingWalks.l0
    rw [if_pos (by omega), w64 (x := F + q + 1) (by omega) (by omega), w64 (x := F + L) (by omega) (by omega), w64 (x := i + 1) (by omega) (by omega)]
    have hs : (o + (i + 1)) % L = (q + 1) % L := by rw [hq, Int.emod_add_emod]; congr 1; omega
    split
    · have e : q + 1 = L := by omega
      have := ih k (i + 1) 0 (by omega) (by omega) (by omega) (by omega) (by rw [hs, e, Int.emod_self])
      rwa [Int.add_zero] at this
    · have := ih k (i + 1) (q + 1) (by omega) (by omega) (by omega) (by omega) (by rw [hs, Int.emod_eq_of_lt (by omega) (by omega)])
      rwa [← Int.add_assoc] at this

theorem RingWalks (a0 a1 a2 a3 : Int) : ∃ k, lodestonelaw14_RingWalks.f k a0 a1 a2 a3 = some true := by
  refine ⟨200, ?_⟩
  unfold lodestonelaw14_RingWalks.f
  rw [and63, and31, and1023, and127]
  have h0 := Int.emod_nonneg a0 (show (64 : Int) ≠ 0 by decide)
  have h1 := Int.emod_nonneg a1 (show (32 : Int) ≠ 0 by decide)
  have h2 := Int.emod_nonneg a2 (show (1024 : Int) ≠ 0 by decide)
  have h3 := Int.emod_nonneg a3 (show (128 : Int) ≠ 0 by decide)
  have g0 := Int.emod_lt_of_pos a0 (show (0 : Int) < 64 by decide)
  have g1 := Int.emod_lt_of_pos a1 (show (0 : Int) < 32 by decide)
  have g2 := Int.emod_lt_of_pos a2 (show (0 : Int) < 1024 by decide)
  have g3 := Int.emod_lt_of_pos a3 (show (0 : Int) < 128 by decide)
  generalize a0 % 64 = F at *
  generalize a1 % 32 = l at *
  generalize a2 % 1024 = p at *
  generalize a3 % 128 = n at *
  rw [w64 (x := l + 1) (by omega) (by omega), if_neg (by omega), tm h2]
  have m0 := Int.emod_nonneg p (show l + 1 ≠ 0 by omega)
  have m1 := Int.emod_lt_of_pos p (show 0 < l + 1 by omega)
  generalize p % (l + 1) = o at *
  rw [w64 (x := F + o) (by omega) (by omega)]
  exact loop F (l + 1) o n (by omega) (by omega) (by omega) (by omega) n.toNat 200 0 o (by omega) (by omega) (by omega) (by omega)
    (by rw [Int.add_zero, Int.emod_eq_of_lt (by omega) (by omega)])

end Go.Proofs.Ytabpbmogbcjciaa.Pure
