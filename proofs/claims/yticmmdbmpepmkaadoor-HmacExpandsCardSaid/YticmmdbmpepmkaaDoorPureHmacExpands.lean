import Derived.Test.YticmmdbmpepmkaaDoorPHmacExpandsx1
import Derived.Test.YticmmdbmpepmkaaDoorHmP
import Derived.Test.YticmmdbmpepmkaaDoorHmD
import Derived.Test.YticmmdbmpepmkaaDoorHmE
namespace Go.Proofs.YticmmdbmpepmkaaDoor.Pure
open Go.RowKit Go.Proofs.YticmmdbmpepmkaaDoor.PHmacExpands Go.Proofs.YticmmdbmpepmkaaDoorW.PrintWords Go.Proofs.YticmmdbmpepmkaaDoorW.PrintLast Go.Proofs.YticmmdbmpepmkaaDoor.XB Go.Proofs.YticmmdbmpepmkaaDoor.Hm
theorem exp_awake : lodestonelaw02_awake.f = some true := by
  have e1 : pd ⟨#[]⟩ 54 ++ (⟨#[]⟩ : ByteArray) = ⟨#[54, 54, 54, 54, 54, 54, 54, 54, 54, 54, 54, 54, 54, 54, 54, 54, 54, 54, 54, 54, 54, 54, 54, 54, 54, 54, 54, 54, 54, 54, 54, 54, 54, 54, 54, 54, 54, 54, 54, 54, 54, 54, 54, 54, 54, 54, 54, 54, 54, 54, 54, 54, 54, 54, 54, 54, 54, 54, 54, 54, 54, 54, 54, 54]⟩ := by kernel_rfl
  have e2 : pd ⟨#[]⟩ 92 = ⟨#[92, 92, 92, 92, 92, 92, 92, 92, 92, 92, 92, 92, 92, 92, 92, 92, 92, 92, 92, 92, 92, 92, 92, 92, 92, 92, 92, 92, 92, 92, 92, 92, 92, 92, 92, 92, 92, 92, 92, 92, 92, 92, 92, 92, 92, 92, 92, 92, 92, 92, 92, 92, 92, 92, 92, 92, 92, 92, 92, 92, 92, 92, 92, 92]⟩ := by kernel_rfl
  have e3 : tag ⟨#[]⟩ ⟨#[]⟩ = ⟨#[182, 19, 103, 154, 8, 20, 217, 236, 119, 47, 149, 215, 120, 195, 95, 197, 255, 22, 151, 196, 147, 113, 86, 83, 198, 199, 18, 20, 66, 146, 197, 173]⟩ := by
    rw [tag, e1, Sha.hm1_dig, e2]
    exact Eq.trans (congrArg Sha.dig (by kernel_rfl)) Sha.hm2_dig
  have e4 : ((⟨#[182, 19, 103, 154, 8, 20, 217, 236, 119, 47, 149, 215, 120, 195, 95, 197, 255, 22, 151, 196, 147, 113, 86, 83, 198, 199, 18, 20, 66, 146, 197, 173]⟩ : ByteArray).toList == ([182, 19, 103, 154, 8, 20, 217, 236, 119, 47, 149, 215, 120, 195, 95, 197, 255, 22, 151, 196, 147, 113, 86, 83, 198, 199, 18, 20, 66, 146, 197, 173] : List UInt8)) = true := by kernel_rfl
  unfold lodestonelaw02_awake.f
  rw [show hmac_Tag.f ⟨#[]⟩ ⟨#[]⟩ = some (tag ⟨#[]⟩ ⟨#[]⟩) from if_pos ⟨by decide, by decide⟩, Option.bind_some, e3]
  exact congrArg some e4
theorem exp_tag (k s : ByteArray) (hk : k.size ≤ 1000) (hs : s.size ≤ 1000) : hmac_Tag.f k s = some (tag k s) := by
  unfold hmac_Tag.f; rw [if_pos ⟨by omega, by omega⟩]
theorem exp_code_loop (key p : ByteArray) (n : Nat) (hk : key.size ≤ 900) (hp : p.size ≤ 900) (hn : n ≤ 8160) :
    ∀ (r e j : Nat) (i : Int), j + r = (n + 31) / 32 → (i = ((j + 1 : Nat) : Int) ∨ r = 0) → hmac_Expand.l0 (r + 1 + e) key p (n : Int) (pcs key p j) (pc key p j) i = some (expd key p n, 0) := by
  intro r
  induction r with
  | zero =>
    intro e j i hj hi
    have hs := pcs_size key p j
    rw [show 0 + 1 + e = e + 1 by omega, hmac_Expand.l0, if_neg (by omega), if_pos (by omega), if_pos (by omega), expd, show (n + 31) / 32 = j by omega]
    rfl
  | succ r ih =>
    intro e j i hj hi
    have hi2 : i = ((j + 1 : Nat) : Int) := by omega
    have hs := pcs_size key p j
    have h1 := pc_size key p j
    have hstr : (strOfNums [i]).size = 1 := by rw [strOfNums_size]; rfl
    have hcat : (pc key p j ++ p).size = (pc key p j).size + p.size := ByteArray.size_append
    have hcat2 : ((pc key p j ++ p) ++ strOfNums [i]).size = (pc key p j).size + p.size + 1 := by rw [ByteArray.size_append, hcat, hstr]
    rw [show r + 1 + 1 + e = (r + 1 + e) + 1 by omega, hmac_Expand.l0, if_pos (by omega), if_pos (by omega), Option.bind_some, if_pos (by omega), exp_tag _ _ (by omega) (by omega), Option.bind_some]
    have e1 : tag key ((pc key p j ++ p) ++ strOfNums [i]) = pc key p (j + 1) := by rw [pc, hi2]
    have hj2 : ((i + 1) % 256 = ((j + 1 + 1 : Nat) : Int) ∨ r = 0) := by omega
    have hi := ih e (j + 1) ((i + 1) % 256) (by omega) hj2
    rw [show pcs key p (j + 1) = pcs key p j ++ pc key p (j + 1) from rfl] at hi
    have h2 := pc_size key p (j + 1)
    rw [e1]
    generalize pc key p (j + 1) = z at h2 hi ⊢
    generalize pcs key p j = y at hs hi ⊢
    clear e1 h1 hcat hcat2 hstr ih hj2 hi2
    rw [if_pos (by omega)]
    exact hi
theorem exp_code (key p : ByteArray) (n : Nat) (hk : key.size ≤ 900) (hp : p.size ≤ 900) (hn : n ≤ 8160) (k : Nat) (hkk : 300 ≤ k) : hmac_Expand.f k key p (n : Int) = some (expd key p n, 0) := by
  obtain ⟨e, rfl⟩ : ∃ e, k = ((n + 31) / 32 + 1 + e) + 1 := ⟨k - 2 - (n + 31) / 32, by omega⟩
  unfold hmac_Expand.f
  rw [if_neg (by omega), hmac_Expand.j0, if_neg (by simp; omega)]
  exact exp_code_loop key p n hk hp hn _ e 0 1 (by omega) (.inl rfl)
theorem exp_wr (j : Nat) (h : j ≤ 300) : wrap64 (((j + 1 : Nat) : Int) + 1) = ((j + 1 + 1 : Nat) : Int) := by
  rw [w64 (by omega) (by omega)]
  omega
theorem exp_rtag (k s : ByteArray) (hk : k.size ≤ 1000) (hs : s.size ≤ 1000) : lodestoneref01_Tag.f k s = some (tag k s) := by
  unfold lodestoneref01_Tag.f; rw [if_pos ⟨by omega, by omega⟩]
theorem exp_ref_loop (key p : ByteArray) (n : Nat) (hk : key.size ≤ 900) (hp : p.size ≤ 900) (hn : n ≤ 8160) :
    ∀ (r e j : Nat), j + r = (n + 31) / 32 → lodestoneref01_Expand.l0 (r + 1 + e) key p (n : Int) (pcs key p j) (pc key p j) ((j + 1 : Nat) : Int) = some (expd key p n) := by
  intro r
  induction r with
  | zero =>
    intro e j hj
    have hs := pcs_size key p j
    rw [show 0 + 1 + e = e + 1 by omega, lodestoneref01_Expand.l0, if_neg (by omega), if_pos (by omega), if_pos (by omega), expd, show (n + 31) / 32 = j by omega]
    rfl
  | succ r ih =>
    intro e j hj
    have hs := pcs_size key p j
    have h1 := pc_size key p j
    have hm : (((j + 1 : Nat) : Int)) % 256 = ((j + 1 : Nat) : Int) := by omega
    have hstr : (strOfNums [((j + 1 : Nat) : Int)]).size = 1 := by rw [strOfNums_size]; rfl
    have hcat : (pc key p j ++ p).size = (pc key p j).size + p.size := ByteArray.size_append
    have hcat2 : ((pc key p j ++ p) ++ strOfNums [((j + 1 : Nat) : Int)]).size = (pc key p j).size + p.size + 1 := by rw [ByteArray.size_append, hcat, hstr]
    rw [show r + 1 + 1 + e = (r + 1 + e) + 1 by omega, lodestoneref01_Expand.l0, if_pos (by omega), if_pos (by omega), Option.bind_some, hm, if_pos (by omega), exp_rtag _ _ (by omega) (by omega), Option.bind_some]
    have e1 : tag key ((pc key p j ++ p) ++ strOfNums [((j + 1 : Nat) : Int)]) = pc key p (j + 1) := by rw [pc]
    have e2 := exp_wr j (by omega)
    have hi := ih e (j + 1) (by omega)
    rw [show pcs key p (j + 1) = pcs key p j ++ pc key p (j + 1) from rfl] at hi
    have h2 := pc_size key p (j + 1)
    rw [e1]
    generalize pc key p (j + 1) = z at h2 hi ⊢
    generalize pcs key p j = y at hs hi ⊢
    clear e1 h1 hcat hcat2 hstr hm ih
    rw [if_pos (by omega), e2]
    exact hi
theorem exp_ref (key p : ByteArray) (n : Nat) (hk : key.size ≤ 900) (hp : p.size ≤ 900) (hn : n ≤ 8160) (k : Nat) (hkk : 300 ≤ k) : lodestoneref01_Expand.f k key p (n : Int) = some (expd key p n) := by
  obtain ⟨e, rfl⟩ : ∃ e, k = (n + 31) / 32 + 1 + e := ⟨k - 1 - (n + 31) / 32, by omega⟩
  exact exp_ref_loop key p n hk hp hn _ e 0 (by omega)
theorem exp_and (n : Int) : Go.bits .and .i64 n 255 = n % 256 := by
  have h : (BitVec.ofInt 64 255).toNat = 2 ^ 8 - 1 := by decide
  have key : (BitVec.ofInt 64 n &&& BitVec.ofInt 64 255).toNat = (n % ((2 ^ 64 : Nat) : Int)).toNat % 2 ^ 8 := by
    rw [BitVec.toNat_and, BitVec.toNat_ofInt, h, Nat.and_two_pow_sub_one_eq_mod]
  show IntKind.i64.wrap ((BitVec.ofInt 64 n &&& BitVec.ofInt 64 255).toNat : Nat) = n % 256
  rw [key, IntKind.wrap_i64]
  omega
theorem HmacExpands : lodestonelaw02_HmacExpands.Pure := by
  intro a0 a1 a2 h0 h1 h2
  have g1 : 0 ≤ mn (a0.size : Int) 100 := by unfold mn; split <;> omega
  have g2 : mn (a0.size : Int) 100 ≤ (a0.size : Int) := by unfold mn; split <;> omega
  have g3 : mn (a0.size : Int) 100 ≤ 100 := by unfold mn; split <;> omega
  have q1 : 0 ≤ mn (a1.size : Int) 50 := by unfold mn; split <;> omega
  have q2 : mn (a1.size : Int) 50 ≤ (a1.size : Int) := by unfold mn; split <;> omega
  have q3 : mn (a1.size : Int) 50 ≤ 50 := by unfold mn; split <;> omega
  obtain ⟨x, hx⟩ : ∃ x, a0.extract 0 ((mn (a0.size : Int) 100) : Int).toNat = x := ⟨_, rfl⟩
  obtain ⟨y, hy⟩ : ∃ y, a1.extract 0 ((mn (a1.size : Int) 50) : Int).toNat = y := ⟨_, rfl⟩
  have hxs : x.size ≤ 100 := by rw [← hx, ByteArray.size_extract]; omega
  have hys : y.size ≤ 50 := by rw [← hy, ByteArray.size_extract]; omega
  obtain ⟨m, hm⟩ : ∃ m : Nat, a2 % 256 = m := ⟨(a2 % 256).toNat, by omega⟩
  have hm2 : wrap64 (Int.tdiv (m : Int) 2) = ((m / 2 : Nat) : Int) := by rw [td (by omega)]; unfold wrap64; omega
  have c1 := exp_code x y m (by omega) (by omega) (by omega) 300 (Nat.le_refl _)
  have c2 := exp_code x y (m / 2) (by omega) (by omega) (by omega) 300 (Nat.le_refl _)
  have c3 := exp_ref x y m (by omega) (by omega) (by omega) 300 (Nat.le_refl _)
  refine ⟨300, ?_⟩
  unfold lodestonelaw02_HmacExpands.f
  rw [if_pos g1, if_pos g2, if_pos q1, if_pos q2, hx, hy, exp_and, hm, hm2, c1, Option.bind_some, c2, Option.bind_some, exp_awake, Option.bind_some, if_pos rfl, if_pos rfl, if_pos rfl, c3, Option.bind_some, if_pos rfl, if_pos (by omega), if_pos (by rw [expd_size]; omega)]
  have e := expd_pre x y (m / 2) m (by omega)
  rw [show (((m / 2 : Nat) : Int)).toNat = m / 2 by omega]
  show some ((expd x y (m / 2)).toList == ((expd x y m).extract 0 (m / 2)).toList) = some true
  rw [← e]
  simp
end Go.Proofs.YticmmdbmpepmkaaDoor.Pure
