import Derived.Test.YticmmdbmpepmkaaDoorPHmacSamex1
import Derived.Test.YticmmdbmpepmkaaDoorHmT
import Derived.Test.YticmmdbmpepmkaaDoorHmD
import Derived.Test.YticmmdbmpepmkaaDoorHmE
namespace Go.Proofs.YticmmdbmpepmkaaDoor.Pure
open Go.RowKit Go.Proofs.YticmmdbmpepmkaaDoor.PHmacSame Go.Proofs.YticmmdbmpepmkaaDoorW.PrintWords Go.Proofs.YticmmdbmpepmkaaDoorW.PrintLast Go.Proofs.YticmmdbmpepmkaaDoor.XB Go.Proofs.YticmmdbmpepmkaaDoor.Hm
theorem same_awake : lodestonelaw02_awake.f = some true := by
  have e1 : pd ⟨#[]⟩ 54 ++ (⟨#[]⟩ : ByteArray) = ⟨#[54, 54, 54, 54, 54, 54, 54, 54, 54, 54, 54, 54, 54, 54, 54, 54, 54, 54, 54, 54, 54, 54, 54, 54, 54, 54, 54, 54, 54, 54, 54, 54, 54, 54, 54, 54, 54, 54, 54, 54, 54, 54, 54, 54, 54, 54, 54, 54, 54, 54, 54, 54, 54, 54, 54, 54, 54, 54, 54, 54, 54, 54, 54, 54]⟩ := by kernel_rfl
  have e2 : pd ⟨#[]⟩ 92 = ⟨#[92, 92, 92, 92, 92, 92, 92, 92, 92, 92, 92, 92, 92, 92, 92, 92, 92, 92, 92, 92, 92, 92, 92, 92, 92, 92, 92, 92, 92, 92, 92, 92, 92, 92, 92, 92, 92, 92, 92, 92, 92, 92, 92, 92, 92, 92, 92, 92, 92, 92, 92, 92, 92, 92, 92, 92, 92, 92, 92, 92, 92, 92, 92, 92]⟩ := by kernel_rfl
  have e3 : tag ⟨#[]⟩ ⟨#[]⟩ = ⟨#[182, 19, 103, 154, 8, 20, 217, 236, 119, 47, 149, 215, 120, 195, 95, 197, 255, 22, 151, 196, 147, 113, 86, 83, 198, 199, 18, 20, 66, 146, 197, 173]⟩ := by
    rw [tag, e1, Sha.hm1_dig, e2]
    exact Eq.trans (congrArg Sha.dig (by kernel_rfl)) Sha.hm2_dig
  have e4 : ((⟨#[182, 19, 103, 154, 8, 20, 217, 236, 119, 47, 149, 215, 120, 195, 95, 197, 255, 22, 151, 196, 147, 113, 86, 83, 198, 199, 18, 20, 66, 146, 197, 173]⟩ : ByteArray).toList == ([182, 19, 103, 154, 8, 20, 217, 236, 119, 47, 149, 215, 120, 195, 95, 197, 255, 22, 151, 196, 147, 113, 86, 83, 198, 199, 18, 20, 66, 146, 197, 173] : List UInt8)) = true := by kernel_rfl
  unfold lodestonelaw02_awake.f
  rw [show hmac_Tag.f ⟨#[]⟩ ⟨#[]⟩ = some (tag ⟨#[]⟩ ⟨#[]⟩) from if_pos ⟨by decide, by decide⟩, Option.bind_some, e3]
  exact congrArg some e4
theorem same_u8 {a : Int} (h : (Lit.int .u8 a).wf = true) : 0 ≤ a ∧ a ≤ 255 := by
  simp [Lit.wf] at h
  have e1 : IntKind.u8.min = 0 := rfl
  have e2 : IntKind.u8.max = 255 := rfl
  omega
theorem same_law (a b : ByteArray) (p q : Int) (ha : a.size ≤ 140737488351232) (hb : b.size ≤ 140737488351232) (hp : (Lit.int .u8 p).wf = true) (hq : (Lit.int .u8 q).wf = true) (w : World) (hG : Sha.SL w) :
    Calls Tryd.prog 4 #[.string a, .string b, .agg #[.int .u8 p, .int .u8 q]] w fun e w' => e = .returned (.bool true) ∧ Below w.heap.size w w' :=
  HmS.law_calls a b p q (same_u8 hp) (same_u8 hq) ha hb same_awake w hG
end Go.Proofs.YticmmdbmpepmkaaDoor.Pure
