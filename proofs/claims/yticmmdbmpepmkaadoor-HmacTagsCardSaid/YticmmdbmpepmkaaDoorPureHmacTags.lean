import Derived.Test.YticmmdbmpepmkaaDoorPHmacTagsx1
import Derived.Test.YticmmdbmpepmkaaDoorHmP
import Derived.Test.YticmmdbmpepmkaaDoorHmD
import Derived.Test.YticmmdbmpepmkaaDoorHmE
namespace Go.Proofs.YticmmdbmpepmkaaDoor.Pure
open Go.RowKit Go.Proofs.YticmmdbmpepmkaaDoor.PHmacTags Go.Proofs.YticmmdbmpepmkaaDoorW.PrintWords Go.Proofs.YticmmdbmpepmkaaDoorW.PrintLast Go.Proofs.YticmmdbmpepmkaaDoor.XB Go.Proofs.YticmmdbmpepmkaaDoor.Hm
theorem tags_awake : lodestonelaw02_awake.f = some true := by
  have e1 : pd ⟨#[]⟩ 54 ++ (⟨#[]⟩ : ByteArray) = ⟨#[54, 54, 54, 54, 54, 54, 54, 54, 54, 54, 54, 54, 54, 54, 54, 54, 54, 54, 54, 54, 54, 54, 54, 54, 54, 54, 54, 54, 54, 54, 54, 54, 54, 54, 54, 54, 54, 54, 54, 54, 54, 54, 54, 54, 54, 54, 54, 54, 54, 54, 54, 54, 54, 54, 54, 54, 54, 54, 54, 54, 54, 54, 54, 54]⟩ := by kernel_rfl
  have e2 : pd ⟨#[]⟩ 92 = ⟨#[92, 92, 92, 92, 92, 92, 92, 92, 92, 92, 92, 92, 92, 92, 92, 92, 92, 92, 92, 92, 92, 92, 92, 92, 92, 92, 92, 92, 92, 92, 92, 92, 92, 92, 92, 92, 92, 92, 92, 92, 92, 92, 92, 92, 92, 92, 92, 92, 92, 92, 92, 92, 92, 92, 92, 92, 92, 92, 92, 92, 92, 92, 92, 92]⟩ := by kernel_rfl
  have e3 : tag ⟨#[]⟩ ⟨#[]⟩ = ⟨#[182, 19, 103, 154, 8, 20, 217, 236, 119, 47, 149, 215, 120, 195, 95, 197, 255, 22, 151, 196, 147, 113, 86, 83, 198, 199, 18, 20, 66, 146, 197, 173]⟩ := by
    rw [tag, e1, Sha.hm1_dig, e2]
    exact Eq.trans (congrArg Sha.dig (by kernel_rfl)) Sha.hm2_dig
  have e4 : ((⟨#[182, 19, 103, 154, 8, 20, 217, 236, 119, 47, 149, 215, 120, 195, 95, 197, 255, 22, 151, 196, 147, 113, 86, 83, 198, 199, 18, 20, 66, 146, 197, 173]⟩ : ByteArray).toList == ([182, 19, 103, 154, 8, 20, 217, 236, 119, 47, 149, 215, 120, 195, 95, 197, 255, 22, 151, 196, 147, 113, 86, 83, 198, 199, 18, 20, 66, 146, 197, 173] : List UInt8)) = true := by kernel_rfl
  unfold lodestonelaw02_awake.f
  rw [show hmac_Tag.f ⟨#[]⟩ ⟨#[]⟩ = some (tag ⟨#[]⟩ ⟨#[]⟩) from if_pos ⟨by decide, by decide⟩, Option.bind_some, e3]
  exact congrArg some e4
theorem HmacTags : lodestonelaw02_HmacTags.Pure := by
  intro a0 a1 h0 h1
  have g1 : 0 ≤ mn (a0.size : Int) 200 := by unfold mn; split <;> omega
  have g2 : mn (a0.size : Int) 200 ≤ (a0.size : Int) := by unfold mn; split <;> omega
  have g3 : mn (a0.size : Int) 200 ≤ 200 := by unfold mn; split <;> omega
  have q1 : 0 ≤ mn (a1.size : Int) 300 := by unfold mn; split <;> omega
  have q2 : mn (a1.size : Int) 300 ≤ (a1.size : Int) := by unfold mn; split <;> omega
  have q3 : mn (a1.size : Int) 300 ≤ 300 := by unfold mn; split <;> omega
  obtain ⟨x, hx⟩ : ∃ x, a0.extract 0 ((mn (a0.size : Int) 200) : Int).toNat = x := ⟨_, rfl⟩
  obtain ⟨y, hy⟩ : ∃ y, a1.extract 0 ((mn (a1.size : Int) 300) : Int).toNat = y := ⟨_, rfl⟩
  have hxs : x.size ≤ 200 := by rw [← hx, ByteArray.size_extract]; omega
  have hys : y.size ≤ 300 := by rw [← hy, ByteArray.size_extract]; omega
  have e1 : hmac_Tag.f x y = some (tag x y) := by unfold hmac_Tag.f; rw [if_pos ⟨by omega, by omega⟩]
  have e2 : lodestoneref01_Tag.f x y = some (tag x y) := by unfold lodestoneref01_Tag.f; rw [if_pos ⟨by omega, by omega⟩]
  have e3 : hmac_Extract.f x y = some (tag x y) := by unfold hmac_Extract.f; rw [e1, Option.bind_some]
  unfold lodestonelaw02_HmacTags.f
  rw [if_pos g1, if_pos g2, if_pos q1, if_pos q2, hx, hy, tags_awake, Option.bind_some, if_pos rfl, e1, Option.bind_some, e2, Option.bind_some, if_pos rfl, e3, Option.bind_some, Option.bind_some]
  simp
end Go.Proofs.YticmmdbmpepmkaaDoor.Pure
