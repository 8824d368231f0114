import Derived.Test.YticmmdbmpepmkaaDoorPHmacMostx1
import Derived.Test.YticmmdbmpepmkaaDoorHmP
import Derived.Test.YticmmdbmpepmkaaDoorHmD
import Derived.Test.YticmmdbmpepmkaaDoorHmE
namespace Go.Proofs.YticmmdbmpepmkaaDoor.Pure
open Go.RowKit Go.Proofs.YticmmdbmpepmkaaDoor.PHmacMost Go.Proofs.YticmmdbmpepmkaaDoorW.PrintWords Go.Proofs.YticmmdbmpepmkaaDoorW.PrintLast Go.Proofs.YticmmdbmpepmkaaDoor.XB Go.Proofs.YticmmdbmpepmkaaDoor.Hm
theorem most_awake : lodestonelaw02_awake.f = some true := by
  have e1 : pd ⟨#[]⟩ 54 ++ (⟨#[]⟩ : ByteArray) = ⟨#[54, 54, 54, 54, 54, 54, 54, 54, 54, 54, 54, 54, 54, 54, 54, 54, 54, 54, 54, 54, 54, 54, 54, 54, 54, 54, 54, 54, 54, 54, 54, 54, 54, 54, 54, 54, 54, 54, 54, 54, 54, 54, 54, 54, 54, 54, 54, 54, 54, 54, 54, 54, 54, 54, 54, 54, 54, 54, 54, 54, 54, 54, 54, 54]⟩ := by kernel_rfl
  have e2 : pd ⟨#[]⟩ 92 = ⟨#[92, 92, 92, 92, 92, 92, 92, 92, 92, 92, 92, 92, 92, 92, 92, 92, 92, 92, 92, 92, 92, 92, 92, 92, 92, 92, 92, 92, 92, 92, 92, 92, 92, 92, 92, 92, 92, 92, 92, 92, 92, 92, 92, 92, 92, 92, 92, 92, 92, 92, 92, 92, 92, 92, 92, 92, 92, 92, 92, 92, 92, 92, 92, 92]⟩ := by kernel_rfl
  have e3 : tag ⟨#[]⟩ ⟨#[]⟩ = ⟨#[182, 19, 103, 154, 8, 20, 217, 236, 119, 47, 149, 215, 120, 195, 95, 197, 255, 22, 151, 196, 147, 113, 86, 83, 198, 199, 18, 20, 66, 146, 197, 173]⟩ := by
    rw [tag, e1, Sha.hm1_dig, e2]
    exact Eq.trans (congrArg Sha.dig (by kernel_rfl)) Sha.hm2_dig
  have e4 : ((⟨#[182, 19, 103, 154, 8, 20, 217, 236, 119, 47, 149, 215, 120, 195, 95, 197, 255, 22, 151, 196, 147, 113, 86, 83, 198, 199, 18, 20, 66, 146, 197, 173]⟩ : ByteArray).toList == ([182, 19, 103, 154, 8, 20, 217, 236, 119, 47, 149, 215, 120, 195, 95, 197, 255, 22, 151, 196, 147, 113, 86, 83, 198, 199, 18, 20, 66, 146, 197, 173] : List UInt8)) = true := by kernel_rfl
  unfold lodestonelaw02_awake.f
  rw [show hmac_Tag.f ⟨#[]⟩ ⟨#[]⟩ = some (tag ⟨#[]⟩ ⟨#[]⟩) from if_pos ⟨by decide, by decide⟩, Option.bind_some, e3]
  exact congrArg some e4
theorem most_tag (k s : ByteArray) (hk : k.size ≤ 1000) (hs : s.size ≤ 1000) : hmac_Tag.f k s = some (tag k s) := by
  unfold hmac_Tag.f; rw [if_pos ⟨by omega, by omega⟩]
theorem most_code_loop (key p : ByteArray) (n : Nat) (hk : key.size ≤ 900) (hp : p.size ≤ 900) (hn : n ≤ 8160) :
    ∀ (r e j : Nat) (i : Int), j + r = (n + 31) / 32 → (i = ((j + 1 : Nat) : Int) ∨ r = 0) → hmac_Expand.l0 (r + 1 + e) key p (n : Int) (pcs key p j) (pc key p j) i = some (expd key p n, 0) := by
  intro r
  induction r with
  | zero =>
    intro e j i hj hi
    have hs := pcs_size key p j
    rw [show 0 + 1 + e = e + 1 by omega, hmac_Expand.l0, if_neg (by omega), if_pos (by omega), if_pos (by omega), expd, show (n + 31) / 32 = j by omega]
    rfl
  | succ r ih =>
    intro e j i hj hi
    have hi2 : i = ((j + 1 : Nat) : Int) := by omega
    have hs := pcs_size key p j
    have h1 := pc_size key p j
    have hstr : (strOfNums [i]).size = 1 := by rw [strOfNums_size]; rfl
    have hcat : (pc key p j ++ p).size = (pc key p j).size + p.size := ByteArray.size_append
    have hcat2 : ((pc key p j ++ p) ++ strOfNums [i]).size = (pc key p j).size + p.size + 1 := by rw [ByteArray.size_append, hcat, hstr]
    rw [show r + 1 + 1 + e = (r + 1 + e) + 1 by omega, hmac_Expand.l0, if_pos (by omega), if_pos (by omega), Option.bind_some, if_pos (by omega), most_tag _ _ (by omega) (by omega), Option.bind_some]
    have e1 : tag key ((pc key p j ++ p) ++ strOfNums [i]) = pc key p (j + 1) := by rw [pc, hi2]
    have hj2 : ((i + 1) % 256 = ((j + 1 + 1 : Nat) : Int) ∨ r = 0) := by omega
    have hi := ih e (j + 1) ((i + 1) % 256) (by omega) hj2
    rw [show pcs key p (j + 1) = pcs key p j ++ pc key p (j + 1) from rfl] at hi
    have h2 := pc_size key p (j + 1)
    rw [e1]
    generalize pc key p (j + 1) = z at h2 hi ⊢
    generalize pcs key p j = y at hs hi ⊢
    clear e1 h1 hcat hcat2 hstr ih hj2 hi2
    rw [if_pos (by omega)]
    exact hi
theorem most_code (key p : ByteArray) (n : Nat) (hk : key.size ≤ 900) (hp : p.size ≤ 900) (hn : n ≤ 8160) (k : Nat) (hkk : 300 ≤ k) : hmac_Expand.f k key p (n : Int) = some (expd key p n, 0) := by
  obtain ⟨e, rfl⟩ : ∃ e, k = ((n + 31) / 32 + 1 + e) + 1 := ⟨k - 2 - (n + 31) / 32, by omega⟩
  unfold hmac_Expand.f
  rw [if_neg (by omega), hmac_Expand.j0, if_neg (by simp; omega)]
  exact most_code_loop key p n hk hp hn _ e 0 1 (by omega) (.inl rfl)
theorem most_and (n : Int) : Go.bits .and .i64 n 1023 = n % 1024 := by
  have h : (BitVec.ofInt 64 1023).toNat = 2 ^ 10 - 1 := by decide
  have key : (BitVec.ofInt 64 n &&& BitVec.ofInt 64 1023).toNat = (n % ((2 ^ 64 : Nat) : Int)).toNat % 2 ^ 10 := by
    rw [BitVec.toNat_and, BitVec.toNat_ofInt, h, Nat.and_two_pow_sub_one_eq_mod]
  show IntKind.i64.wrap ((BitVec.ofInt 64 n &&& BitVec.ofInt 64 1023).toNat : Nat) = n % 1024
  rw [key, IntKind.wrap_i64]
  omega
theorem HmacMost : lodestonelaw02_HmacMost.Pure := by
  intro a0 h0
  have hm0 : 0 ≤ a0 % 1024 := by omega
  have hm1 : a0 % 1024 < 1024 := by omega
  have e1 : wrap64 ((-1) - a0 % 1024) = -1 - a0 % 1024 := by unfold wrap64; omega
  have e2 : wrap64 (8161 + a0 % 1024) = 8161 + a0 % 1024 := by unfold wrap64; omega
  have c1 : hmac_Expand.f 300 (⟨#[107, 101, 121]⟩ : ByteArray) (⟨#[]⟩ : ByteArray) (-1 - a0 % 1024) = some (⟨#[]⟩, 1) := by
    unfold hmac_Expand.f
    rw [if_pos (by omega), hmac_Expand.j0, if_pos rfl]
  have c2 : hmac_Expand.f 300 (⟨#[107, 101, 121]⟩ : ByteArray) (⟨#[]⟩ : ByteArray) (8161 + a0 % 1024) = some (⟨#[]⟩, 1) := by
    unfold hmac_Expand.f
    rw [if_neg (by omega), hmac_Expand.j0, if_pos (by simp; omega)]
  have c3 := most_code (⟨#[107, 101, 121]⟩ : ByteArray) (⟨#[]⟩ : ByteArray) 8160 (by decide) (by decide) (by omega) 300 (Nat.le_refl _)
  rw [show ((8160 : Nat) : Int) = 8160 from rfl] at c3
  have he : (⟨#[]⟩ : ByteArray).toList = ([] : List UInt8) := by kernel_rfl
  refine ⟨300, ?_⟩
  unfold lodestonelaw02_HmacMost.f
  rw [most_and, e1, e2, c1, Option.bind_some, c2, Option.bind_some, c3, Option.bind_some, most_awake, Option.bind_some, if_pos rfl, if_pos he, if_pos rfl, if_pos he, if_pos rfl, if_pos rfl, expd_size]
  rfl
end Go.Proofs.YticmmdbmpepmkaaDoor.Pure
