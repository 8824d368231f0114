import Derived.Test.YtehmnbdeokjogaaDoorPShaSumsx1
namespace Go.Proofs.YtehmnbdeokjogaaDoor.Pure
open Go.RowKit Go.Proofs.YtehmnbdeokjogaaDoor.PShaSums Go.Proofs.YtehmnbdeokjogaaDoorW.PrintWords Go.Proofs.YtehmnbdeokjogaaDoorW.PrintLast
theorem sums_sum (x : ByteArray) (h : x.size ≤ 1000) : sha_Sum.f x = some (Sha.dig x) := if_pos (by omega)
theorem sums_ref (x : ByteArray) (h : x.size ≤ 1000) : lodestoneref01_Sum.f x = some (Sha.dig x) := if_pos (by omega)
theorem sums_awake : lodestonelaw01_awake.f = some true := by
  unfold lodestonelaw01_awake.f
  rw [sums_sum _ (by decide), Option.bind_some, Sha.dig_abc]
  kernel_rfl
theorem ShaSums : lodestonelaw01_ShaSums.Pure := by
  intro a0 h0
  have h1 : 0 ≤ mn (a0.size : Int) 600 := by unfold mn; split <;> omega
  have h2 : mn (a0.size : Int) 600 ≤ (a0.size : Int) := by unfold mn; split <;> omega
  have h3 : mn (a0.size : Int) 600 ≤ 600 := by unfold mn; split <;> omega
  unfold lodestonelaw01_ShaSums.f
  rw [if_pos h1, if_pos h2]
  obtain ⟨x, hx⟩ : ∃ x, a0.extract 0 ((mn (a0.size : Int) 600) : Int).toNat = x := ⟨_, rfl⟩
  have hs : x.size ≤ 1000 := by rw [← hx, ByteArray.size_extract]; omega
  rw [hx, sums_awake, Option.bind_some, if_pos rfl, sums_sum x hs, Option.bind_some, sums_ref x hs, Option.bind_some, if_pos rfl, Option.bind_some, Sha.dig_size]
  rfl
end Go.Proofs.YtehmnbdeokjogaaDoor.Pure
