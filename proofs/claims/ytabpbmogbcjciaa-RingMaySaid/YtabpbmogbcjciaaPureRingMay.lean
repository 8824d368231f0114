/- RingMay, the plain law: which rings and places there may be, and of others nothing is told; for all whole numbers of 64 bits. -/
import Derived.Test.YtabpbmogbcjciaaPRingMayx2
import Derived.OpenShut
namespace Go.Proofs.Ytabpbmogbcjciaa.Pure2
open Go.RowKit Go.Proofs.Ytabpbmogbcjciaa.PRingMay Go.Proofs.YtabpbmogbcjciaaW.PrintWords Go.Proofs.YtabpbmogbcjciaaW.PrintLast Go.Proofs.YtabpbmogbcjciaaW.PrintMore

theorem awake_true : lodestonelaw14_awake.f = some true := by decide +kernel
theorem w64 {x : Int} (h0 : -9223372036854775808 ≤ x) (h1 : x < 9223372036854775808) : wrap64 x = x := by unfold wrap64; omega
theorem tm {a b : Int} (ha : 0 ≤ a) : Int.tmod a b = a % b := Int.tmod_eq_emod_of_nonneg ha

theorem may_true {F L p : Int} (hF : 0 ≤ F ∧ F ≤ 4096) (hL : 1 ≤ L ∧ L ≤ 4096) (hp : F ≤ p ∧ p < F + L) : ring_May.f F L p = some true := by
  unfold ring_May.f
  rw [if_pos (by omega), if_pos (by omega), if_pos (by omega), if_pos (by omega), if_pos (by omega), w64 (by omega) (by omega), decide_eq_true (by omega)]

theorem far_past {F L p : Int} (hF : 0 ≤ F ∧ F ≤ 4096) (hL : 1 ≤ L ∧ L ≤ 4096) (hp : F + L ≤ p) (hb : p ≤ 9223372036854775807) : ring_May.f F L p = some false := by
  unfold ring_May.f
  rw [if_pos (by omega), if_pos (by omega), if_pos (by omega), if_pos (by omega), if_pos (by omega), w64 (by omega) (by omega), decide_eq_false (by omega)]

theorem none_told {F L p a2 : Int} (k : Nat) (h : ring_May.f F L p = some false) : lodestonelaw14_RingMay.j0 (k + 1) p a2 false F L = some true := by
  have ho : ring_On.f F L p a2 = some (-1) := by unfold ring_On.f; rw [h]; rfl
  have hf : ring_Far.f F L p p = some (-1) := by unfold ring_Far.f; rw [h]; rfl
  have hr : ring_Room.f F L p a2 = some 0 := by unfold ring_Room.f; rw [h]; rfl
  simp only [lodestonelaw14_RingMay.j0]
  rw [ho, hf, awake_true]
  simp only [Option.bind_some, if_true, h, hr]
  rfl

theorem all_told {F L p a2 : Int} (hF : 0 ≤ F ∧ F ≤ 4096) (hL : 1 ≤ L ∧ L ≤ 4096) (hp : F ≤ p ∧ p < F + L) (k : Nat) : lodestonelaw14_RingMay.j0 (k + 3) p a2 true F L = some true := by
  have h := may_true hF hL hp
  have hf : ring_Far.f F L p p = some 0 := by
    unfold ring_Far.f; rw [h]
    simp only [Option.bind_some, if_true]
    rw [if_neg (by omega), Int.sub_self, w64 (x := 0) (by omega) (by omega), w64 (by omega) (by omega), tm (by omega), Int.zero_add, Int.emod_self]
  simp only [lodestonelaw14_RingMay.j0, lodestonelaw14_RingMay.j1, lodestonelaw14_RingMay.j2]
  rw [hf, awake_true]
  simp only [h, Option.bind_some, if_true]
  by_cases hk : a2 ≥ 0
  · have hm0 := Int.emod_nonneg a2 (show L ≠ 0 by omega)
    have hm1 := Int.emod_lt_of_pos a2 (show 0 < L by omega)
    have hq0 := Int.emod_nonneg (p - F + a2 % L) (show L ≠ 0 by omega)
    have hq1 := Int.emod_lt_of_pos (p - F + a2 % L) (show 0 < L by omega)
    have ho : ring_On.f F L p a2 = some (F + (p - F + a2 % L) % L) := by
      unfold ring_On.f; rw [h]
      simp only [Option.bind_some, if_true]
      rw [if_neg (by omega), if_neg (by omega), tm hk, w64 (x := p - F) (by omega) (by omega), w64 (x := p - F + a2 % L) (by omega) (by omega), tm (by omega), w64 (by omega) (by omega)]
    rw [ho]
    simp only [Option.bind_some]
    rw [if_pos hk, may_true (p := F + (p - F + a2 % L) % L) hF hL (by omega)]
    simp only [Option.bind_some, if_true]
    rw [if_neg (show ¬ a2 < 0 by omega), if_pos hk]
    by_cases hl : a2 ≤ L
    · have hr : ring_Room.f F L p a2 = some (L - a2) := by
        unfold ring_Room.f; rw [h]
        simp only [Option.bind_some, if_true]
        rw [if_neg (by omega), if_neg (by omega), w64 (by omega) (by omega)]
      rw [decide_eq_true hl, hr, w64 (x := L - a2) (by omega) (by omega)]
      simp
    · have hr : ring_Room.f F L p a2 = some 0 := by
        unfold ring_Room.f; rw [h]
        simp only [Option.bind_some, if_true]
        rw [if_neg (by omega), if_pos (by omega)]
      rw [decide_eq_false hl, hr]
      have h0 : (0 : Int) ≤ a2 := hk
      simp [h0]
  · have ho : ring_On.f F L p a2 = some (-1) := by
      unfold ring_On.f; rw [h]
      simp only [Option.bind_some, if_true]
      rw [if_pos (by omega)]
    have hr : ring_Room.f F L p a2 = some 0 := by
      unfold ring_Room.f; rw [h]
      simp only [Option.bind_some, if_true]
      rw [if_pos (by omega)]
    rw [ho, hr]
    simp only [Option.bind_some]
    rw [if_neg hk, if_pos (show a2 < 0 by omega)]
    simp
    intro h0
    omega

theorem RingMay (F L p a2 : Int) (hp : (Lit.int .i64 p).wf = true) : ∃ k, lodestonelaw14_RingMay.f k F L p a2 = some true := by
  have hb := bounds_i64 hp
  refine ⟨3, ?_⟩
  unfold lodestonelaw14_RingMay.f
  by_cases c1 : F ≥ 0
  · rw [if_pos c1]
    by_cases c2 : F ≤ 4096
    · rw [if_pos c2]
      by_cases c3 : L ≥ 1
      · rw [if_pos c3]
        by_cases c4 : L ≤ 4096
        · rw [if_pos c4]
          by_cases c5 : p ≥ F
          · rw [if_pos c5, show mn L 4096 = L by unfold mn; omega, w64 (x := F + L) (by omega) (by omega)]
            by_cases c6 : p < F + L
            · rw [decide_eq_true c6]; exact all_told ⟨c1, c2⟩ ⟨c3, c4⟩ ⟨c5, c6⟩ 0
            · rw [decide_eq_false c6]; exact none_told 2 (far_past ⟨c1, c2⟩ ⟨c3, c4⟩ (by omega) (by omega))
          · rw [if_neg c5]; exact none_told 2 (by unfold ring_May.f; rw [if_pos c1, if_pos c2, if_pos c3, if_pos c4, if_neg c5])
        · rw [if_neg c4]; exact none_told 2 (by unfold ring_May.f; rw [if_pos c1, if_pos c2, if_pos c3, if_neg c4])
      · rw [if_neg c3]; exact none_told 2 (by unfold ring_May.f; rw [if_pos c1, if_pos c2, if_neg c3])
    · rw [if_neg c2]; exact none_told 2 (by unfold ring_May.f; rw [if_pos c1, if_neg c2])
  · rw [if_neg c1]; exact none_told 2 (by unfold ring_May.f; rw [if_neg c1])

end Go.Proofs.Ytabpbmogbcjciaa.Pure2
