import Derived.Test.YthgagmgbfepohaaDoorPKeysOfx1
import Derived.Test.YthgagmgbfepohaaDoorKyZ
namespace Go.Proofs.YthgagmgbfepohaaDoor.Pure
open Go.RowKit Go.Proofs.YthgagmgbfepohaaDoor.PKeysOf Go.Proofs.YthgagmgbfepohaaDoorW.PrintWords Go.Proofs.YthgagmgbfepohaaDoorW.PrintLast Go.Proofs.YthgagmgbfepohaaDoor.XB Go.Proofs.YthgagmgbfepohaaDoor.Hm
theorem of_tag (k s : ByteArray) (hk : k.size ≤ 1000) (hs : s.size ≤ 1000) : hmac_Tag.f k s = some (tag k s) := by
  unfold hmac_Tag.f; rw [if_pos ⟨by omega, by omega⟩]
theorem of_code_loop (key p : ByteArray) (n : Nat) (hk : key.size ≤ 900) (hp : p.size ≤ 900) (hn : n ≤ 8160) :
    ∀ (r e j : Nat) (i : Int), j + r = (n + 31) / 32 → (i = ((j + 1 : Nat) : Int) ∨ r = 0) → hmac_Expand.l0 (r + 1 + e) key p (n : Int) (pcs key p j) (pc key p j) i = some (expd key p n, 0) := by
  intro r
  induction r with
  | zero =>
    intro e j i hj hi
    have hs := pcs_size key p j
    rw [show 0 + 1 + e = e + 1 by omega, hmac_Expand.l0, if_neg (by omega), if_pos (by omega), if_pos (by omega), expd, show (n + 31) / 32 = j by omega]
    rfl
  | succ r ih =>
    intro e j i hj hi
    have hi2 : i = ((j + 1 : Nat) : Int) := by omega
    have hs := pcs_size key p j
    have h1 := pc_size key p j
    have hstr : (strOfNums [i]).size = 1 := by rw [strOfNums_size]; rfl
    have hcat : (pc key p j ++ p).size = (pc key p j).size + p.size := ByteArray.size_append
    have hcat2 : ((pc key p j ++ p) ++ strOfNums [i]).size = (pc key p j).size + p.size + 1 := by rw [ByteArray.size_append, hcat, hstr]
    rw [show r + 1 + 1 + e = (r + 1 + e) + 1 by omega, hmac_Expand.l0, if_pos (by omega), if_pos (by omega), Option.bind_some, if_pos (by omega), of_tag _ _ (by omega) (by omega), Option.bind_some]
    have e1 : tag key ((pc key p j ++ p) ++ strOfNums [i]) = pc key p (j + 1) := by rw [pc, hi2]
    have hj2 : ((i + 1) % 256 = ((j + 1 + 1 : Nat) : Int) ∨ r = 0) := by omega
    have hi := ih e (j + 1) ((i + 1) % 256) (by omega) hj2
    rw [show pcs key p (j + 1) = pcs key p j ++ pc key p (j + 1) from rfl] at hi
    have h2 := pc_size key p (j + 1)
    rw [e1]
    generalize pc key p (j + 1) = z at h2 hi ⊢
    generalize pcs key p j = y at hs hi ⊢
    clear e1 h1 hcat hcat2 hstr ih hj2 hi2
    rw [if_pos (by omega)]
    exact hi
theorem of_code (key p : ByteArray) (n : Nat) (hk : key.size ≤ 900) (hp : p.size ≤ 900) (hn : n ≤ 8160) (k : Nat) (hkk : 300 ≤ k) : hmac_Expand.f k key p (n : Int) = some (expd key p n, 0) := by
  obtain ⟨e, rfl⟩ : ∃ e, k = ((n + 31) / 32 + 1 + e) + 1 := ⟨k - 2 - (n + 31) / 32, by omega⟩
  unfold hmac_Expand.f
  rw [if_neg (by omega), hmac_Expand.j0, if_neg (by simp; omega)]
  exact of_code_loop key p n hk hp hn _ e 0 1 (by omega) (.inl rfl)
theorem of_wr (j : Nat) (h : j ≤ 300) : wrap64 (((j + 1 : Nat) : Int) + 1) = ((j + 1 + 1 : Nat) : Int) := by
  rw [w64 (by omega) (by omega)]
  omega
theorem of_rtag (k s : ByteArray) (hk : k.size ≤ 1000) (hs : s.size ≤ 1000) : lodestoneref01_Tag.f k s = some (tag k s) := by
  unfold lodestoneref01_Tag.f; rw [if_pos ⟨by omega, by omega⟩]
theorem of_ref_loop (key p : ByteArray) (n : Nat) (hk : key.size ≤ 900) (hp : p.size ≤ 900) (hn : n ≤ 8160) :
    ∀ (r e j : Nat), j + r = (n + 31) / 32 → lodestoneref01_Expand.l0 (r + 1 + e) key p (n : Int) (pcs key p j) (pc key p j) ((j + 1 : Nat) : Int) = some (expd key p n) := by
  intro r
  induction r with
  | zero =>
    intro e j hj
    have hs := pcs_size key p j
    rw [show 0 + 1 + e = e + 1 by omega, lodestoneref01_Expand.l0, if_neg (by omega), if_pos (by omega), if_pos (by omega), expd, show (n + 31) / 32 = j by omega]
    rfl
  | succ r ih =>
    intro e j hj
    have hs := pcs_size key p j
    have h1 := pc_size key p j
    have hm : (((j + 1 : Nat) : Int)) % 256 = ((j + 1 : Nat) : Int) := by omega
    have hstr : (strOfNums [((j + 1 : Nat) : Int)]).size = 1 := by rw [strOfNums_size]; rfl
    have hcat : (pc key p j ++ p).size = (pc key p j).size + p.size := ByteArray.size_append
    have hcat2 : ((pc key p j ++ p) ++ strOfNums [((j + 1 : Nat) : Int)]).size = (pc key p j).size + p.size + 1 := by rw [ByteArray.size_append, hcat, hstr]
    rw [show r + 1 + 1 + e = (r + 1 + e) + 1 by omega, lodestoneref01_Expand.l0, if_pos (by omega), if_pos (by omega), Option.bind_some, hm, if_pos (by omega), of_rtag _ _ (by omega) (by omega), Option.bind_some]
    have e1 : tag key ((pc key p j ++ p) ++ strOfNums [((j + 1 : Nat) : Int)]) = pc key p (j + 1) := by rw [pc]
    have e2 := of_wr j (by omega)
    have hi := ih e (j + 1) (by omega)
    rw [show pcs key p (j + 1) = pcs key p j ++ pc key p (j + 1) from rfl] at hi
    have h2 := pc_size key p (j + 1)
    rw [e1]
    generalize pc key p (j + 1) = z at h2 hi ⊢
    generalize pcs key p j = y at hs hi ⊢
    clear e1 h1 hcat hcat2 hstr hm ih
    rw [if_pos (by omega), e2]
    exact hi
theorem of_ref (key p : ByteArray) (n : Nat) (hk : key.size ≤ 900) (hp : p.size ≤ 900) (hn : n ≤ 8160) (k : Nat) (hkk : 300 ≤ k) : lodestoneref01_Expand.f k key p (n : Int) = some (expd key p n) := by
  obtain ⟨e, rfl⟩ : ∃ e, k = (n + 31) / 32 + 1 + e := ⟨k - 1 - (n + 31) / 32, by omega⟩
  exact of_ref_loop key p n hk hp hn _ e 0 (by omega)
def of_P (e : Int) : ByteArray := (⟨#[101, 112, 111, 99, 104]⟩ : ByteArray) ++ strOfNums [(e / 16777216) % 256, (e / 65536) % 256, (e / 256) % 256, (e) % 256]
theorem of_P_size (e : Int) : (of_P e).size = 9 := by
  rw [of_P, ByteArray.size_append, strOfNums_size]; rfl
theorem of_of (x : ByteArray) (e : Int) (hx : x.size ≤ 900) (k : Nat) (hk : 300 ≤ k) :
    keys_Of.f k x e = some ((expd (tag (⟨#[108, 111, 100, 101, 115, 116, 111, 110, 101]⟩ : ByteArray) x) (of_P e) 64).extract 0 32, (expd (tag (⟨#[108, 111, 100, 101, 115, 116, 111, 110, 101]⟩ : ByteArray) x) (of_P e) 64).extract 32 (expd (tag (⟨#[108, 111, 100, 101, 115, 116, 111, 110, 101]⟩ : ByteArray) x) (of_P e) 64).size) := by
  have h1 : hmac_Extract.f (⟨#[108, 111, 100, 101, 115, 116, 111, 110, 101]⟩ : ByteArray) x = some (tag (⟨#[108, 111, 100, 101, 115, 116, 111, 110, 101]⟩ : ByteArray) x) := by
    unfold hmac_Extract.f
    rw [of_tag _ _ (by decide) (by omega), Option.bind_some]
  have h2 := of_code (tag (⟨#[108, 111, 100, 101, 115, 116, 111, 110, 101]⟩ : ByteArray) x) (of_P e) 64 (by rw [tag_size]; omega) (by rw [of_P_size]; omega) (by omega) k hk
  rw [show ((64 : Nat) : Int) = 64 from rfl] at h2
  have hs : (strOfNums [(e / 16777216) % 256, (e / 65536) % 256, (e / 256) % 256, (e) % 256]).size = 4 := by rw [strOfNums_size]; rfl
  have h3 : hmac_Expand.f k (tag (⟨#[108, 111, 100, 101, 115, 116, 111, 110, 101]⟩ : ByteArray) x) ((⟨#[101, 112, 111, 99, 104]⟩ : ByteArray) ++ strOfNums [(e / 16777216) % 256, (e / 65536) % 256, (e / 256) % 256, (e) % 256]) 64 = some (expd (tag (⟨#[108, 111, 100, 101, 115, 116, 111, 110, 101]⟩ : ByteArray) x) (of_P e) 64, 0) := h2
  unfold keys_Of.f
  rw [h1, Option.bind_some, code_Small.f, Option.bind_some, hs, if_pos (by omega), h3, Option.bind_some, if_pos (by omega), if_pos (by rw [expd_size]; omega)]
theorem of_awake (k : Nat) (hk : 300 ≤ k) : lodestonelaw09_awake.f k = some true := by
  have h := of_of (⟨#[109, 97, 115, 116, 101, 114]⟩ : ByteArray) 3 (by decide) k hk
  have e1 : tag (⟨#[108, 111, 100, 101, 115, 116, 111, 110, 101]⟩ : ByteArray) (⟨#[109, 97, 115, 116, 101, 114]⟩ : ByteArray) = kyK := ky_prk
  have e2 : of_P 3 = kyP := by kernel_rfl
  have e3 : expd kyK kyP 64 = (((⟨#[]⟩ : ByteArray) ++ pc kyK kyP 1) ++ pc kyK kyP 2).extract 0 64 := rfl
  rw [e1, e2, e3, ky_pc1, ky_pc2] at h
  unfold lodestonelaw09_awake.f
  rw [h, Option.bind_some]
  show _ = some true
  kernel_rfl
theorem of_high (e : Int) (h0 : 0 ≤ e) (h1 : e < 4294967296) (k : Nat) (hk : 300 ≤ k) : lodestoneref04_High.f k e 4 = some (strOfNums [(e / 16777216) % 256, (e / 65536) % 256, (e / 256) % 256, (e) % 256]) := by
  obtain ⟨d, rfl⟩ : ∃ d, k = d + 1 + 1 + 1 + 1 + 1 := ⟨k - 5, by omega⟩
  have w1 : ∀ x : Int, 0 ≤ x → x < 4294967296 → IntKind.u64.wrap (Int.tdiv x 256) = x / 256 := fun x a b => by rw [td a]; exact wu64s (by omega) (by omega)
  have m1 : ∀ x : Int, 0 ≤ x → Int.tmod x 256 = x % 256 := fun x a => tm a
  have s1 : ∀ a : Int, (strOfNums [a]).size = 1 := fun a => by rw [strOfNums_size]; rfl
  have e1 : wrap64 (0 + 1) = 1 := by unfold wrap64; omega
  have e2 : wrap64 (1 + 1) = 2 := by unfold wrap64; omega
  have e3 : wrap64 (2 + 1) = 3 := by unfold wrap64; omega
  have e4 : wrap64 (3 + 1) = 4 := by unfold wrap64; omega
  unfold lodestoneref04_High.f
  rw [lodestoneref04_High.l0, if_pos (by omega), if_pos (by omega), Option.bind_some, s1, if_pos (by decide), e1, w1 e h0 h1, m1 e h0]
  rw [lodestoneref04_High.l0, if_pos (by omega), if_pos (by omega), Option.bind_some, s1, if_pos (by simp [ByteArray.size_append, s1]; try decide), e2, w1 _ (by omega) (by omega), m1 _ (by omega)]
  rw [lodestoneref04_High.l0, if_pos (by omega), if_pos (by omega), Option.bind_some, s1, if_pos (by simp [ByteArray.size_append, s1]; try decide), e3, w1 _ (by omega) (by omega), m1 _ (by omega)]
  rw [lodestoneref04_High.l0, if_pos (by omega), if_pos (by omega), Option.bind_some, s1, if_pos (by simp [ByteArray.size_append, s1]; try decide), e4, w1 _ (by omega) (by omega), m1 _ (by omega)]
  rw [lodestoneref04_High.l0, if_neg (by omega)]
  have em : (⟨#[]⟩ : ByteArray) = strOfNums [] := by apply eq_of_data; rw [strOfNums_data]; rfl
  rw [em, ← strOfNums_append, ← strOfNums_append, ← strOfNums_append, ← strOfNums_append]
  simp only [List.cons_append, List.nil_append]
  congr 2
  refine List.cons_eq_cons.mpr ⟨by omega, List.cons_eq_cons.mpr ⟨by omega, List.cons_eq_cons.mpr ⟨by omega, List.cons_eq_cons.mpr ⟨by omega, rfl⟩⟩⟩⟩
theorem of_ref_keys (x : ByteArray) (e : Int) (hx : x.size ≤ 900) (h0 : 0 ≤ e) (h1 : e < 4294967296) (k : Nat) (hk : 300 ≤ k) :
    lodestoneref09_Keys.f k x e = some ((expd (tag (⟨#[108, 111, 100, 101, 115, 116, 111, 110, 101]⟩ : ByteArray) x) (of_P e) 64).extract 0 32, (expd (tag (⟨#[108, 111, 100, 101, 115, 116, 111, 110, 101]⟩ : ByteArray) x) (of_P e) 64).extract 32 (expd (tag (⟨#[108, 111, 100, 101, 115, 116, 111, 110, 101]⟩ : ByteArray) x) (of_P e) 64).size) := by
  have h2 := of_ref (tag (⟨#[108, 111, 100, 101, 115, 116, 111, 110, 101]⟩ : ByteArray) x) (of_P e) 64 (by rw [tag_size]; omega) (by rw [of_P_size]; omega) (by omega) k hk
  rw [show ((64 : Nat) : Int) = 64 from rfl] at h2
  have hs : (strOfNums [(e / 16777216) % 256, (e / 65536) % 256, (e / 256) % 256, (e) % 256]).size = 4 := by rw [strOfNums_size]; rfl
  have h3 : lodestoneref01_Expand.f k (tag (⟨#[108, 111, 100, 101, 115, 116, 111, 110, 101]⟩ : ByteArray) x) ((⟨#[101, 112, 111, 99, 104]⟩ : ByteArray) ++ strOfNums [(e / 16777216) % 256, (e / 65536) % 256, (e / 256) % 256, (e) % 256]) 64 = some (expd (tag (⟨#[108, 111, 100, 101, 115, 116, 111, 110, 101]⟩ : ByteArray) x) (of_P e) 64) := h2
  have hw : IntKind.u64.wrap e = e := wu64s h0 (by omega)
  unfold lodestoneref09_Keys.f
  rw [of_rtag _ _ (by decide) (by omega), Option.bind_some, hw, of_high e h0 h1 k hk, Option.bind_some, hs, if_pos (by omega), h3, Option.bind_some, if_pos (by omega), if_pos (by rw [expd_size]; omega)]
theorem KeysOf : lodestonelaw09_KeysOf.Pure := by
  intro a0 a1 h0 h1
  have g1 : 0 ≤ mn (a0.size : Int) 100 := by unfold mn; split <;> omega
  have g2 : mn (a0.size : Int) 100 ≤ (a0.size : Int) := by unfold mn; split <;> omega
  have g3 : mn (a0.size : Int) 100 ≤ 100 := by unfold mn; split <;> omega
  have hu : 0 ≤ a1 ∧ a1 < 4294967296 := by
    simp [Lit.wf] at h1
    have e1 : IntKind.u32.min = 0 := rfl
    have e2 : IntKind.u32.max = 4294967295 := rfl
    omega
  obtain ⟨x, hx⟩ : ∃ x, a0.extract 0 ((mn (a0.size : Int) 100) : Int).toNat = x := ⟨_, rfl⟩
  have hxs : x.size ≤ 100 := by rw [← hx, ByteArray.size_extract]; omega
  refine ⟨300, ?_⟩
  unfold lodestonelaw09_KeysOf.f
  rw [if_pos g1, if_pos g2, hx, of_of x a1 (by omega) 300 (Nat.le_refl _), Option.bind_some, of_ref_keys x a1 (by omega) hu.1 hu.2 300 (Nat.le_refl _), Option.bind_some, of_awake 300 (Nat.le_refl _), Option.bind_some, if_pos rfl, if_pos rfl]
  simp
end Go.Proofs.YthgagmgbfepohaaDoor.Pure
