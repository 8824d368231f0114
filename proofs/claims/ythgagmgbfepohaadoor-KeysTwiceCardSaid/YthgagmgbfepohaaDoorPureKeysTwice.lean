import Derived.Test.YthgagmgbfepohaaDoorPKeysTwicex3
import Derived.Test.YthgagmgbfepohaaDoorKyZ
namespace Go.Proofs.YthgagmgbfepohaaDoor.Pure
open Go.RowKit Go.Proofs.YthgagmgbfepohaaDoor.PKeysTwice Go.Proofs.YthgagmgbfepohaaDoorW.PrintWords Go.Proofs.YthgagmgbfepohaaDoorW.PrintLast Go.Proofs.YthgagmgbfepohaaDoor.XB Go.Proofs.YthgagmgbfepohaaDoor.Hm
theorem tw_tag (k s : ByteArray) (hk : k.size ≤ 1000) (hs : s.size ≤ 1000) : hmac_Tag.f k s = some (tag k s) := by
  unfold hmac_Tag.f; rw [if_pos ⟨by omega, by omega⟩]
theorem tw_code_loop (key p : ByteArray) (n : Nat) (hk : key.size ≤ 900) (hp : p.size ≤ 900) (hn : n ≤ 8160) :
    ∀ (r e j : Nat) (i : Int), j + r = (n + 31) / 32 → (i = ((j + 1 : Nat) : Int) ∨ r = 0) → hmac_Expand.l0 (r + 1 + e) key p (n : Int) (pcs key p j) (pc key p j) i = some (expd key p n, 0) := by
  intro r
  induction r with
  | zero =>
    intro e j i hj hi
    have hs := pcs_size key p j
    rw [show 0 + 1 + e = e + 1 by omega, hmac_Expand.l0, if_neg (by omega), if_pos (by omega), if_pos (by omega), expd, show (n + 31) / 32 = j by omega]
    rfl
  | succ r ih =>
    intro e j i hj hi
    have hi2 : i = ((j + 1 : Nat) : Int) := by omega
    have hs := pcs_size key p j
    have h1 := pc_size key p j
    have hstr : (strOfNums [i]).size = 1 := by rw [strOfNums_size]; rfl
    have hcat : (pc key p j ++ p).size = (pc key p j).size + p.size := ByteArray.size_append
    have hcat2 : ((pc key p j ++ p) ++ strOfNums [i]).size = (pc key p j).size + p.size + 1 := by rw [ByteArray.size_append, hcat, hstr]
    rw [show r + 1 + 1 + e = (r + 1 + e) + 1 by omega, hmac_Expand.l0, if_pos (by omega), if_pos (by omega), Option.bind_some, if_pos (by omega), tw_tag _ _ (by omega) (by omega), Option.bind_some]
    have e1 : tag key ((pc key p j ++ p) ++ strOfNums [i]) = pc key p (j + 1) := by rw [pc, hi2]
    have hj2 : ((i + 1) % 256 = ((j + 1 + 1 : Nat) : Int) ∨ r = 0) := by omega
    have hi := ih e (j + 1) ((i + 1) % 256) (by omega) hj2
    rw [show pcs key p (j + 1) = pcs key p j ++ pc key p (j + 1) from rfl] at hi
    have h2 := pc_size key p (j + 1)
    rw [e1]
    generalize pc key p (j + 1) = z at h2 hi ⊢
    generalize pcs key p j = y at hs hi ⊢
    clear e1 h1 hcat hcat2 hstr ih hj2 hi2
    rw [if_pos (by omega)]
    exact hi
theorem tw_code (key p : ByteArray) (n : Nat) (hk : key.size ≤ 900) (hp : p.size ≤ 900) (hn : n ≤ 8160) (k : Nat) (hkk : 300 ≤ k) : hmac_Expand.f k key p (n : Int) = some (expd key p n, 0) := by
  obtain ⟨e, rfl⟩ : ∃ e, k = ((n + 31) / 32 + 1 + e) + 1 := ⟨k - 2 - (n + 31) / 32, by omega⟩
  unfold hmac_Expand.f
  rw [if_neg (by omega), hmac_Expand.j0, if_neg (by simp; omega)]
  exact tw_code_loop key p n hk hp hn _ e 0 1 (by omega) (.inl rfl)
def tw_P (e : Int) : ByteArray := (⟨#[101, 112, 111, 99, 104]⟩ : ByteArray) ++ strOfNums [(e / 16777216) % 256, (e / 65536) % 256, (e / 256) % 256, (e) % 256]
theorem tw_P_size (e : Int) : (tw_P e).size = 9 := by
  rw [tw_P, ByteArray.size_append, strOfNums_size]; rfl
theorem tw_of (x : ByteArray) (e : Int) (hx : x.size ≤ 900) (k : Nat) (hk : 300 ≤ k) :
    keys_Of.f k x e = some ((expd (tag (⟨#[108, 111, 100, 101, 115, 116, 111, 110, 101]⟩ : ByteArray) x) (tw_P e) 64).extract 0 32, (expd (tag (⟨#[108, 111, 100, 101, 115, 116, 111, 110, 101]⟩ : ByteArray) x) (tw_P e) 64).extract 32 (expd (tag (⟨#[108, 111, 100, 101, 115, 116, 111, 110, 101]⟩ : ByteArray) x) (tw_P e) 64).size) := by
  have h1 : hmac_Extract.f (⟨#[108, 111, 100, 101, 115, 116, 111, 110, 101]⟩ : ByteArray) x = some (tag (⟨#[108, 111, 100, 101, 115, 116, 111, 110, 101]⟩ : ByteArray) x) := by
    unfold hmac_Extract.f
    rw [tw_tag _ _ (by decide) (by omega), Option.bind_some]
  have h2 := tw_code (tag (⟨#[108, 111, 100, 101, 115, 116, 111, 110, 101]⟩ : ByteArray) x) (tw_P e) 64 (by rw [tag_size]; omega) (by rw [tw_P_size]; omega) (by omega) k hk
  rw [show ((64 : Nat) : Int) = 64 from rfl] at h2
  have hs : (strOfNums [(e / 16777216) % 256, (e / 65536) % 256, (e / 256) % 256, (e) % 256]).size = 4 := by rw [strOfNums_size]; rfl
  have h3 : hmac_Expand.f k (tag (⟨#[108, 111, 100, 101, 115, 116, 111, 110, 101]⟩ : ByteArray) x) ((⟨#[101, 112, 111, 99, 104]⟩ : ByteArray) ++ strOfNums [(e / 16777216) % 256, (e / 65536) % 256, (e / 256) % 256, (e) % 256]) 64 = some (expd (tag (⟨#[108, 111, 100, 101, 115, 116, 111, 110, 101]⟩ : ByteArray) x) (tw_P e) 64, 0) := h2
  unfold keys_Of.f
  rw [h1, Option.bind_some, code_Small.f, Option.bind_some, hs, if_pos (by omega), h3, Option.bind_some, if_pos (by omega), if_pos (by rw [expd_size]; omega)]
theorem tw_awake (k : Nat) (hk : 300 ≤ k) : lodestonelaw09_awake.f k = some true := by
  have h := tw_of (⟨#[109, 97, 115, 116, 101, 114]⟩ : ByteArray) 3 (by decide) k hk
  have e1 : tag (⟨#[108, 111, 100, 101, 115, 116, 111, 110, 101]⟩ : ByteArray) (⟨#[109, 97, 115, 116, 101, 114]⟩ : ByteArray) = kyK := ky_prk
  have e2 : tw_P 3 = kyP := by kernel_rfl
  have e3 : expd kyK kyP 64 = (((⟨#[]⟩ : ByteArray) ++ pc kyK kyP 1) ++ pc kyK kyP 2).extract 0 64 := rfl
  rw [e1, e2, e3, ky_pc1, ky_pc2] at h
  unfold lodestonelaw09_awake.f
  rw [h, Option.bind_some]
  show _ = some true
  kernel_rfl
theorem tw_rtag (k s : ByteArray) (hk : k.size ≤ 1000) (hs : s.size ≤ 1000) : lodestoneref01_Tag.f k s = some (tag k s) := by
  unfold lodestoneref01_Tag.f; rw [if_pos ⟨by omega, by omega⟩]
theorem tw_first (key p : ByteArray) : (expd key p 64).extract 0 32 = tag key (p ++ strOfNums [1]) := by
  have e1 : (expd key p 64).extract 0 32 = expd key p 32 := (expd_pre key p 32 64 (by omega)).symm
  have e2 : pc key p 1 = tag key (((⟨#[]⟩ : ByteArray) ++ p) ++ strOfNums [1]) := rfl
  have e3 : (⟨#[]⟩ : ByteArray) ++ p = p := by apply eq_of_data; rw [append_data]; rfl
  rw [e3] at e2
  rw [e1, ← e2]
  show ((⟨#[]⟩ : ByteArray) ++ pc key p 1).extract 0 32 = pc key p 1
  apply eq_of_data
  rw [extract_data, append_data]
  have hl : (pc key p 1).data.toList.length = 32 := by rw [data_len, e2, tag_size]
  show (List.drop 0 ([] ++ (pc key p 1).data.toList)).take (32 - 0) = _
  rw [List.nil_append, List.drop_zero, List.take_of_length_le (by omega)]
theorem KeysTwice : lodestonelaw09_KeysTwice.Pure := by
  intro a0 a1 h0 h1
  have g1 : 0 ≤ mn (a0.size : Int) 100 := by unfold mn; split <;> omega
  have g2 : mn (a0.size : Int) 100 ≤ (a0.size : Int) := by unfold mn; split <;> omega
  have g3 : mn (a0.size : Int) 100 ≤ 100 := by unfold mn; split <;> omega
  obtain ⟨x, hx⟩ : ∃ x, a0.extract 0 ((mn (a0.size : Int) 100) : Int).toNat = x := ⟨_, rfl⟩
  have hxs : x.size ≤ 100 := by rw [← hx, ByteArray.size_extract]; omega
  have hs : (strOfNums [(a1 / 16777216) % 256, (a1 / 65536) % 256, (a1 / 256) % 256, (a1) % 256, 1]).size = 5 := by rw [strOfNums_size]; rfl
  have hcat : (⟨#[101, 112, 111, 99, 104]⟩ : ByteArray) ++ strOfNums [(a1 / 16777216) % 256, (a1 / 65536) % 256, (a1 / 256) % 256, (a1) % 256, 1] = tw_P a1 ++ strOfNums [1] := by
    rw [tw_P, show ([(a1 / 16777216) % 256, (a1 / 65536) % 256, (a1 / 256) % 256, (a1) % 256, 1] : List Int) = [(a1 / 16777216) % 256, (a1 / 65536) % 256, (a1 / 256) % 256, (a1) % 256] ++ [1] from rfl, strOfNums_append]
    apply eq_of_data
    simp only [append_data, List.append_assoc]
  refine ⟨300, ?_⟩
  unfold lodestonelaw09_KeysTwice.f
  rw [if_pos g1, if_pos g2, hx, tw_awake 300 (Nat.le_refl _), Option.bind_some, if_pos rfl, tw_of x a1 (by omega) 300 (Nat.le_refl _), Option.bind_some, Option.bind_some, if_pos (by simp), Option.bind_some, tw_rtag _ _ (by decide) (by omega), Option.bind_some, Option.bind_some, hs, if_pos (by omega), hcat, tw_rtag _ _ (by rw [tag_size]; omega) (by rw [ByteArray.size_append, tw_P_size, strOfNums_size]; simp), Option.bind_some, tw_first]
  simp
end Go.Proofs.YthgagmgbfepohaaDoor.Pure
