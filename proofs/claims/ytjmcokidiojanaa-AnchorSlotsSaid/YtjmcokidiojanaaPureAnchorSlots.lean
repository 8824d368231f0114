/- AnchorSlots, the plain law: an anchor and the next one stand in two blocks; for every number of 64 bits. -/
import Derived.Test.YtjmcokidiojanaaPAnchorSlotsx6
import Derived.Test.YtjmcokidiojanaaXB
namespace Go.Proofs.Ytjmcokidiojanaa.Pure
open Go.RowKit Go.Proofs.Ytjmcokidiojanaa.PAnchorSlots Go.Proofs.YtjmcokidiojanaaW.PrintWords Go.Proofs.YtjmcokidiojanaaW.PrintLast Go.Proofs.YtjmcokidiojanaaW.PrintMore Go.Proofs.Ytjmcokidiojanaa.XB

theorem num_ne (f : Nat) : ∀ (k : Nat) (n : Int), 1 ≤ f → 0 ≤ n → n < 128 ^ f → n < 18446744073709551616 → f ≤ k → f < 1000 →
    ∃ r, lodestoneref04_Num.f k n = some r ∧ r.size ≤ f ∧ 1 ≤ r.size := by
  induction f with
  | zero => intro k n hf; omega
  | succ f ih =>
    intro k n _ h0 h1 h2 hk hf
    obtain ⟨k, rfl⟩ : ∃ m, k = m + 1 := ⟨k - 1, by omega⟩
    unfold lodestoneref04_Num.f
    by_cases c : n < 128
    · rw [if_pos c]
      exact ⟨_, rfl, by rw [strOfNums_size]; simp, by rw [strOfNums_size]; simp⟩
    · obtain ⟨r, hr, h3, h4⟩ := ih k (n / 128) (by rcases f with _ | f; simp at h1; omega; omega) (by omega) (by rw [Int.pow_succ] at h1; omega) (by omega) (by omega) (by omega)
      rw [if_neg c, tm h0, td h0, wu64s (x := n / 128) (by omega) (by omega), hr]
      simp only [obs]
      have hs : (strOfNums [IntKind.u64.wrap (n % 128 + 128) % 256]).size = 1 := strOfNums_size _
      rw [if_pos (by omega)]
      exact ⟨_, rfl, by rw [size_append]; omega, by rw [size_append]; omega⟩
theorem awake_true : lodestonelaw12_awake.f 60 = some true := by decide +kernel
theorem AnchorSlots : lodestonelaw12_AnchorSlots.Pure := by
  intro a ha
  obtain ⟨h0, h1⟩ := bounds_u64 ha
  refine ⟨60, ?_⟩
  obtain ⟨r, hr, _, hr1⟩ := num_ne 10 60 (a / 2) (by decide) (by omega) (by omega) (by omega) (by decide) (by decide)
  unfold lodestonelaw12_AnchorSlots.f anchor_Slot.f
  rw [awake_true, hr, wu64s (by omega) (by omega), tm (by omega), tm (by omega), w64 (by omega) (by omega), w64 (by omega) (by omega)]
  simp only [obs, if_true]
  rw [if_neg (by omega), if_pos (by omega), if_pos (by omega)]
  have : r.toList ≠ [] := by
    intro e
    have := data_len r
    rw [← toList_data, e] at this
    simp at this; omega
  simp [this]
end Go.Proofs.Ytjmcokidiojanaa.Pure
