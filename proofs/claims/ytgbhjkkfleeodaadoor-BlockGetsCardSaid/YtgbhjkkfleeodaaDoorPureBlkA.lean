import Derived.Test.YtgbhjkkfleeodaaDoorPBlockPutsx6
import Derived.Test.YtgbhjkkfleeodaaDoorHmP
import Derived.Test.YtgbhjkkfleeodaaDoorXL
namespace Go.Proofs.YtgbhjkkfleeodaaDoor.PureBlk
open Go.RowKit Go.Proofs.YtgbhjkkfleeodaaDoor.PBlockPuts Go.Proofs.YtgbhjkkfleeodaaDoorW.PrintWords Go.Proofs.YtgbhjkkfleeodaaDoorW.PrintLast Go.Proofs.YtgbhjkkfleeodaaDoor.XB Go.Proofs.YtgbhjkkfleeodaaDoor.XL Go.Proofs.YtgbhjkkfleeodaaDoor.Hm
open Go.Proofs.YtgbhjkkfleeodaaDoor.Cha hiding xor8
set_option linter.unusedVariables false
set_option linter.unusedSimpArgs false
theorem bp_tag (k s : ByteArray) (hk : k.size ≤ 1000) (hs : s.size ≤ 1000) : hmac_Tag.f k s = some (tag k s) := by
  unfold hmac_Tag.f; rw [if_pos ⟨by omega, by omega⟩]
theorem bp_code_loop (key p : ByteArray) (n : Nat) (hk : key.size ≤ 900) (hp : p.size ≤ 900) (hn : n ≤ 8160) :
    ∀ (r e j : Nat) (i : Int), j + r = (n + 31) / 32 → (i = ((j + 1 : Nat) : Int) ∨ r = 0) → hmac_Expand.l0 (r + 1 + e) key p (n : Int) (pcs key p j) (pc key p j) i = some (expd key p n, 0) := by
  intro r
  induction r with
  | zero =>
    intro e j i hj hi
    have hs := pcs_size key p j
    rw [show 0 + 1 + e = e + 1 by omega, hmac_Expand.l0, if_neg (by omega), if_pos (by omega), if_pos (by omega), expd, show (n + 31) / 32 = j by omega]
    rfl
  | succ r ih =>
    intro e j i hj hi
    have hi2 : i = ((j + 1 : Nat) : Int) := by omega
    have hs := pcs_size key p j
    have h1 := pc_size key p j
    have hstr : (strOfNums [i]).size = 1 := by rw [strOfNums_size]; rfl
    have hcat : (pc key p j ++ p).size = (pc key p j).size + p.size := ByteArray.size_append
    have hcat2 : ((pc key p j ++ p) ++ strOfNums [i]).size = (pc key p j).size + p.size + 1 := by rw [ByteArray.size_append, hcat, hstr]
    rw [show r + 1 + 1 + e = (r + 1 + e) + 1 by omega, hmac_Expand.l0, if_pos (by omega), if_pos (by omega), Option.bind_some, if_pos (by omega), bp_tag _ _ (by omega) (by omega), Option.bind_some]
    have e1 : tag key ((pc key p j ++ p) ++ strOfNums [i]) = pc key p (j + 1) := by rw [pc, hi2]
    have hj2 : ((i + 1) % 256 = ((j + 1 + 1 : Nat) : Int) ∨ r = 0) := by omega
    have hi := ih e (j + 1) ((i + 1) % 256) (by omega) hj2
    rw [show pcs key p (j + 1) = pcs key p j ++ pc key p (j + 1) from rfl] at hi
    have h2 := pc_size key p (j + 1)
    rw [e1]
    generalize pc key p (j + 1) = z at h2 hi ⊢
    generalize pcs key p j = y at hs hi ⊢
    clear e1 h1 hcat hcat2 hstr ih hj2 hi2
    rw [if_pos (by omega)]
    exact hi
theorem bp_code (key p : ByteArray) (n : Nat) (hk : key.size ≤ 900) (hp : p.size ≤ 900) (hn : n ≤ 8160) (k : Nat) (hkk : 300 ≤ k) : hmac_Expand.f k key p (n : Int) = some (expd key p n, 0) := by
  obtain ⟨e, rfl⟩ : ∃ e, k = ((n + 31) / 32 + 1 + e) + 1 := ⟨k - 2 - (n + 31) / 32, by omega⟩
  unfold hmac_Expand.f
  rw [if_neg (by omega), hmac_Expand.j0, if_neg (by simp; omega)]
  exact bp_code_loop key p n hk hp hn _ e 0 1 (by omega) (.inl rfl)
theorem bp_wr (j : Nat) (h : j ≤ 300) : wrap64 (((j + 1 : Nat) : Int) + 1) = ((j + 1 + 1 : Nat) : Int) := by
  rw [w64 (by omega) (by omega)]
  omega
theorem bp_rtag (k s : ByteArray) (hk : k.size ≤ 1000) (hs : s.size ≤ 1000) : lodestoneref01_Tag.f k s = some (tag k s) := by
  unfold lodestoneref01_Tag.f; rw [if_pos ⟨by omega, by omega⟩]
theorem bp_ref_loop (key p : ByteArray) (n : Nat) (hk : key.size ≤ 900) (hp : p.size ≤ 900) (hn : n ≤ 8160) :
    ∀ (r e j : Nat), j + r = (n + 31) / 32 → lodestoneref01_Expand.l0 (r + 1 + e) key p (n : Int) (pcs key p j) (pc key p j) ((j + 1 : Nat) : Int) = some (expd key p n) := by
  intro r
  induction r with
  | zero =>
    intro e j hj
    have hs := pcs_size key p j
    rw [show 0 + 1 + e = e + 1 by omega, lodestoneref01_Expand.l0, if_neg (by omega), if_pos (by omega), if_pos (by omega), expd, show (n + 31) / 32 = j by omega]
    rfl
  | succ r ih =>
    intro e j hj
    have hs := pcs_size key p j
    have h1 := pc_size key p j
    have hm : (((j + 1 : Nat) : Int)) % 256 = ((j + 1 : Nat) : Int) := by omega
    have hstr : (strOfNums [((j + 1 : Nat) : Int)]).size = 1 := by rw [strOfNums_size]; rfl
    have hcat : (pc key p j ++ p).size = (pc key p j).size + p.size := ByteArray.size_append
    have hcat2 : ((pc key p j ++ p) ++ strOfNums [((j + 1 : Nat) : Int)]).size = (pc key p j).size + p.size + 1 := by rw [ByteArray.size_append, hcat, hstr]
    rw [show r + 1 + 1 + e = (r + 1 + e) + 1 by omega, lodestoneref01_Expand.l0, if_pos (by omega), if_pos (by omega), Option.bind_some, hm, if_pos (by omega), bp_rtag _ _ (by omega) (by omega), Option.bind_some]
    have e1 : tag key ((pc key p j ++ p) ++ strOfNums [((j + 1 : Nat) : Int)]) = pc key p (j + 1) := by rw [pc]
    have e2 := bp_wr j (by omega)
    have hi := ih e (j + 1) (by omega)
    rw [show pcs key p (j + 1) = pcs key p j ++ pc key p (j + 1) from rfl] at hi
    have h2 := pc_size key p (j + 1)
    rw [e1]
    generalize pc key p (j + 1) = z at h2 hi ⊢
    generalize pcs key p j = y at hs hi ⊢
    clear e1 h1 hcat hcat2 hstr hm ih
    rw [if_pos (by omega), e2]
    exact hi
theorem bp_ref (key p : ByteArray) (n : Nat) (hk : key.size ≤ 900) (hp : p.size ≤ 900) (hn : n ≤ 8160) (k : Nat) (hkk : 300 ≤ k) : lodestoneref01_Expand.f k key p (n : Int) = some (expd key p n) := by
  obtain ⟨e, rfl⟩ : ∃ e, k = (n + 31) / 32 + 1 + e := ⟨k - 1 - (n + 31) / 32, by omega⟩
  exact bp_ref_loop key p n hk hp hn _ e 0 (by omega)
theorem bp_same_loop (a b : ByteArray) (n : Nat) (ha : a.size = n) (hb : b.size = n) (hn : n ≤ 600) :
    ∀ (d e i : Nat) (acc : Int), i + d = n → (0 ≤ acc ∧ acc ≤ 255) → ∃ r, hmac_Same.l0 (d + 1 + e) a b acc (n : Int) (i : Int) = some r ∧ (r = true ↔ acc = 0 ∧ ∀ j, i ≤ j → j < n → bt a (j : Int) = bt b (j : Int)) := by
  intro d
  induction d with
  | zero =>
    intro e i acc h hacc
    refine ⟨acc == 0, ?_, ?_⟩
    · rw [show 0 + 1 + e = e + 1 by omega, hmac_Same.l0, if_neg (by omega)]
    · rw [beq_iff_eq]
      exact ⟨fun h1 => ⟨h1, fun j h2 h3 => by omega⟩, fun h1 => h1.1⟩
  | succ d ih =>
    intro e i acc h hacc
    have hx := (xor8 (bt_range a (i : Int)) (bt_range b (i : Int))).1
    have hor := byte_bits hacc hx
    obtain ⟨r, h1, h2⟩ := ih e (i + 1) (Go.bits .or .u8 acc (Go.bits .xor .u8 (bt a (i : Int)) (bt b (i : Int)))) (by omega) hor.1
    refine ⟨r, ?_, ?_⟩
    · have hw : wrap64 ((i : Int) + 1) = ((i + 1 : Nat) : Int) := by rw [w64 (by omega) (by omega)]; omega
      rw [show d + 1 + 1 + e = (d + 1 + e) + 1 by omega, hmac_Same.l0, if_pos (by omega), if_pos (by omega), if_pos (by omega), if_pos (by omega), hw]
      exact h1
    · rw [h2, hor.2.1, (byte_bits (bt_range a (i : Int)) (bt_range b (i : Int))).2.2.1]
      constructor
      · rintro ⟨⟨h3, h4⟩, h5⟩
        refine ⟨h3, fun j h6 h7 => ?_⟩
        by_cases e : j = i
        · rw [e]; exact h4
        · exact h5 j (by omega) h7
      · rintro ⟨h3, h4⟩
        exact ⟨⟨h3, h4 i (Nat.le_refl _) (by omega)⟩, fun j h5 h6 => h4 j (by omega) h6⟩
theorem bp_turns_inner (x0 x1 x2 : ByteArray) (m : Nat) (hm : 64 * m < x2.size) (hs : x2.size ≤ 1000) (R : ByteArray) (k : Nat) :
    ∀ (d x10 : Nat), 64 * m ≤ x10 → x10 + d = min (64 * m + 64) x2.size → lodestoneref03_Turn.l0 k x0 x1 x2 (tl x0 x1 x2 (min (64 * m + 64) x2.size)) ((64 * m + 64 : Nat) : Int) = some R →
      lodestoneref03_Turn.l1 (k + d + 1) x0 x1 x2 (tl x0 x1 x2 x10) ((64 * m : Nat) : Int) (blk x0 x1 (bno (64 * m))) (x10 : Int) = some R := by
  intro d
  induction d with
  | zero =>
    intro x10 h0 h1 h
    have e1 : wrap64 (((64 * m : Nat) : Int) + 64) = ((64 * m + 64 : Nat) : Int) := by unfold wrap64; omega
    have e2 : x10 = min (64 * m + 64) x2.size := by omega
    rw [lodestoneref03_Turn.l1, e1]
    by_cases c : (x10 : Int) < ((64 * m + 64 : Nat) : Int)
    · rw [if_pos c, if_neg (by omega), e2]; exact h
    · rw [if_neg c, e2]; exact h
  | succ d ih =>
    intro x10 h0 h1 h
    have e1 : wrap64 (((64 * m : Nat) : Int) + 64) = ((64 * m + 64 : Nat) : Int) := by unfold wrap64; omega
    have e3 : wrap64 ((x10 : Int) - ((64 * m : Nat) : Int)) = ((x10 % 64 : Nat) : Int) := by unfold wrap64; omega
    have e4 : wrap64 ((x10 : Int) + 1) = ((x10 + 1 : Nat) : Int) := by unfold wrap64; omega
    have e5 : bno (64 * m) = bno x10 := by unfold bno; rw [show 64 * m / 64 = x10 / 64 by omega]
    rw [lodestoneref03_Turn.l1, e1, e3, e4, if_pos (by omega), if_pos (by omega), if_pos (by omega), if_pos (by omega), if_pos (by rw [blk_size]; omega), if_pos (by rw [tl_length]; omega)]
    have e6 : tl x0 x1 x2 x10 ++ [Go.bits .xor .u8 (bt x2 x10) (bt (blk x0 x1 (bno (64 * m))) ((x10 % 64 : Nat) : Int))] = tl x0 x1 x2 (x10 + 1) := by rw [tl_succ, tb, e5]
    rw [e6, show k + (d + 1) = k + d + 1 by omega]
    exact ih (x10 + 1) (by omega) (by omega) h
theorem bp_turns_outer (x0 x1 x2 : ByteArray) (h0 : x0.size = 32) (h1 : x1.size = 12) (hs : x2.size ≤ 1000) :
    ∀ (r m : Nat), x2.size ≤ 64 * (m + r) → ∃ k, lodestoneref03_Turn.l0 k x0 x1 x2 (tl x0 x1 x2 (min (64 * m) x2.size)) ((64 * m : Nat) : Int) = some (turned x0 x1 x2) := by
  intro r
  induction r with
  | zero =>
    intro m hm
    refine ⟨1, ?_⟩
    rw [lodestoneref03_Turn.l0, if_neg (by omega), show min (64 * m) x2.size = x2.size by omega, turned_tl]
  | succ r ih =>
    intro m hm
    by_cases c : x2.size ≤ 64 * m
    · refine ⟨1, ?_⟩
      rw [lodestoneref03_Turn.l0, if_neg (by omega), show min (64 * m) x2.size = x2.size by omega, turned_tl]
    · obtain ⟨k, hk⟩ := ih (m + 1) (by omega)
      rw [show 64 * (m + 1) = 64 * m + 64 by omega] at hk
      refine ⟨k + (min (64 * m + 64) x2.size - 64 * m) + 1 + 1, ?_⟩
      have e1 : (wrap64 (Int.tdiv ((64 * m : Nat) : Int) 64)) % 4294967296 = bno (64 * m) := by
        rw [td (by omega)]; unfold bno wrap64; omega
      have hb : lodestoneref03_Block.f x0 x1 (bno (64 * m)) = some (blk x0 x1 (bno (64 * m))) := if_pos ⟨h0, h1, by unfold bno; omega, by unfold bno; omega⟩
      rw [lodestoneref03_Turn.l0, if_pos (by omega), e1, hb, Option.bind_some, show min (64 * m) x2.size = 64 * m by omega]
      exact bp_turns_inner x0 x1 x2 m (by omega) hs _ k _ (64 * m) (Nat.le_refl _) (by omega) hk
theorem bp_high (e : Int) (h0 : 0 ≤ e) (h1 : e < 4294967296) (k : Nat) (hk : 300 ≤ k) : lodestoneref04_High.f k e 4 = some (strOfNums [(e / 16777216) % 256, (e / 65536) % 256, (e / 256) % 256, (e) % 256]) := by
  obtain ⟨d, rfl⟩ : ∃ d, k = d + 1 + 1 + 1 + 1 + 1 := ⟨k - 5, by omega⟩
  have w1 : ∀ x : Int, 0 ≤ x → x < 4294967296 → IntKind.u64.wrap (Int.tdiv x 256) = x / 256 := fun x a b => by rw [td a]; exact wu64s (by omega) (by omega)
  have m1 : ∀ x : Int, 0 ≤ x → Int.tmod x 256 = x % 256 := fun x a => tm a
  have s1 : ∀ a : Int, (strOfNums [a]).size = 1 := fun a => by rw [strOfNums_size]; rfl
  have e1 : wrap64 (0 + 1) = 1 := by unfold wrap64; omega
  have e2 : wrap64 (1 + 1) = 2 := by unfold wrap64; omega
  have e3 : wrap64 (2 + 1) = 3 := by unfold wrap64; omega
  have e4 : wrap64 (3 + 1) = 4 := by unfold wrap64; omega
  unfold lodestoneref04_High.f
  rw [lodestoneref04_High.l0, if_pos (by omega), if_pos (by omega), Option.bind_some, s1, if_pos (by decide), e1, w1 e h0 h1, m1 e h0]
  rw [lodestoneref04_High.l0, if_pos (by omega), if_pos (by omega), Option.bind_some, s1, if_pos (by simp [ByteArray.size_append, s1]; try decide), e2, w1 _ (by omega) (by omega), m1 _ (by omega)]
  rw [lodestoneref04_High.l0, if_pos (by omega), if_pos (by omega), Option.bind_some, s1, if_pos (by simp [ByteArray.size_append, s1]; try decide), e3, w1 _ (by omega) (by omega), m1 _ (by omega)]
  rw [lodestoneref04_High.l0, if_pos (by omega), if_pos (by omega), Option.bind_some, s1, if_pos (by simp [ByteArray.size_append, s1]; try decide), e4, w1 _ (by omega) (by omega), m1 _ (by omega)]
  rw [lodestoneref04_High.l0, if_neg (by omega)]
  have em : (⟨#[]⟩ : ByteArray) = strOfNums [] := by apply eq_of_data; rw [strOfNums_data]; rfl
  rw [em, ← strOfNums_append, ← strOfNums_append, ← strOfNums_append, ← strOfNums_append]
  simp only [List.cons_append, List.nil_append]
  congr 2
  refine List.cons_eq_cons.mpr ⟨by omega, List.cons_eq_cons.mpr ⟨by omega, List.cons_eq_cons.mpr ⟨by omega, List.cons_eq_cons.mpr ⟨by omega, rfl⟩⟩⟩⟩
def bp_P (e : Int) : ByteArray := (⟨#[101, 112, 111, 99, 104]⟩ : ByteArray) ++ strOfNums [(e / 16777216) % 256, (e / 65536) % 256, (e / 256) % 256, (e) % 256]
theorem bp_P_size (e : Int) : (bp_P e).size = 9 := by
  rw [bp_P, ByteArray.size_append, strOfNums_size]; rfl
theorem bp_of (x : ByteArray) (e : Int) (hx : x.size ≤ 900) (k : Nat) (hk : 300 ≤ k) :
    keys_Of.f k x e = some ((expd (tag (⟨#[108, 111, 100, 101, 115, 116, 111, 110, 101]⟩ : ByteArray) x) (bp_P e) 64).extract 0 32, (expd (tag (⟨#[108, 111, 100, 101, 115, 116, 111, 110, 101]⟩ : ByteArray) x) (bp_P e) 64).extract 32 (expd (tag (⟨#[108, 111, 100, 101, 115, 116, 111, 110, 101]⟩ : ByteArray) x) (bp_P e) 64).size) := by
  have h1 : hmac_Extract.f (⟨#[108, 111, 100, 101, 115, 116, 111, 110, 101]⟩ : ByteArray) x = some (tag (⟨#[108, 111, 100, 101, 115, 116, 111, 110, 101]⟩ : ByteArray) x) := by
    unfold hmac_Extract.f
    rw [bp_tag _ _ (by decide) (by omega), Option.bind_some]
  have h2 := bp_code (tag (⟨#[108, 111, 100, 101, 115, 116, 111, 110, 101]⟩ : ByteArray) x) (bp_P e) 64 (by rw [tag_size]; omega) (by rw [bp_P_size]; omega) (by omega) k hk
  rw [show ((64 : Nat) : Int) = 64 from rfl] at h2
  have hs : (strOfNums [(e / 16777216) % 256, (e / 65536) % 256, (e / 256) % 256, (e) % 256]).size = 4 := by rw [strOfNums_size]; rfl
  have h3 : hmac_Expand.f k (tag (⟨#[108, 111, 100, 101, 115, 116, 111, 110, 101]⟩ : ByteArray) x) ((⟨#[101, 112, 111, 99, 104]⟩ : ByteArray) ++ strOfNums [(e / 16777216) % 256, (e / 65536) % 256, (e / 256) % 256, (e) % 256]) 64 = some (expd (tag (⟨#[108, 111, 100, 101, 115, 116, 111, 110, 101]⟩ : ByteArray) x) (bp_P e) 64, 0) := h2
  unfold keys_Of.f
  rw [h1, Option.bind_some, code_Small.f, Option.bind_some, hs, if_pos (by omega), h3, Option.bind_some, if_pos (by omega), if_pos (by rw [expd_size]; omega)]
theorem bp_ref_keys (x : ByteArray) (e : Int) (hx : x.size ≤ 900) (h0 : 0 ≤ e) (h1 : e < 4294967296) (k : Nat) (hk : 300 ≤ k) :
    lodestoneref09_Keys.f k x e = some ((expd (tag (⟨#[108, 111, 100, 101, 115, 116, 111, 110, 101]⟩ : ByteArray) x) (bp_P e) 64).extract 0 32, (expd (tag (⟨#[108, 111, 100, 101, 115, 116, 111, 110, 101]⟩ : ByteArray) x) (bp_P e) 64).extract 32 (expd (tag (⟨#[108, 111, 100, 101, 115, 116, 111, 110, 101]⟩ : ByteArray) x) (bp_P e) 64).size) := by
  have h2 := bp_ref (tag (⟨#[108, 111, 100, 101, 115, 116, 111, 110, 101]⟩ : ByteArray) x) (bp_P e) 64 (by rw [tag_size]; omega) (by rw [bp_P_size]; omega) (by omega) k hk
  rw [show ((64 : Nat) : Int) = 64 from rfl] at h2
  have hs : (strOfNums [(e / 16777216) % 256, (e / 65536) % 256, (e / 256) % 256, (e) % 256]).size = 4 := by rw [strOfNums_size]; rfl
  have h3 : lodestoneref01_Expand.f k (tag (⟨#[108, 111, 100, 101, 115, 116, 111, 110, 101]⟩ : ByteArray) x) ((⟨#[101, 112, 111, 99, 104]⟩ : ByteArray) ++ strOfNums [(e / 16777216) % 256, (e / 65536) % 256, (e / 256) % 256, (e) % 256]) 64 = some (expd (tag (⟨#[108, 111, 100, 101, 115, 116, 111, 110, 101]⟩ : ByteArray) x) (bp_P e) 64) := h2
  have hw : IntKind.u64.wrap e = e := wu64s h0 (by omega)
  unfold lodestoneref09_Keys.f
  rw [bp_rtag _ _ (by decide) (by omega), Option.bind_some, hw, bp_high e h0 h1 k hk, Option.bind_some, hs, if_pos (by omega), h3, Option.bind_some, if_pos (by omega), if_pos (by rw [expd_size]; omega)]
def bp_small (p : Int) : ByteArray := strOfNums [(p % 4294967296 / 16777216) % 256, (p % 4294967296 / 65536) % 256, (p % 4294967296 / 256) % 256, (p % 4294967296) % 256]
theorem bp_small_size (p : Int) : (bp_small p).size = 4 := by rw [bp_small, strOfNums_size]; rfl
def bp_stag (G : ByteArray) (p : Int) (n c : ByteArray) : ByteArray := tag G ((bp_small p ++ n) ++ c)
theorem bp_stag_size (G : ByteArray) (p : Int) (n c : ByteArray) : (bp_stag G p n c).size = 32 := by rw [bp_stag, tag_size]
theorem bp_stag_f (T G n c : ByteArray) (p : Int) (hG : G.size ≤ 100) (hn : n.size ≤ 100) (hc : c.size ≤ 600) : seal_tag.f T G p n c = some (bp_stag G p n c) := by
  have h1 := bp_small_size p
  have h2 : (bp_small p ++ n).size = 4 + n.size := by rw [ByteArray.size_append, h1]
  have h3 : ((bp_small p ++ n) ++ c).size = 4 + n.size + c.size := by rw [ByteArray.size_append, h2]
  unfold seal_tag.f code_Small.f
  rw [Option.bind_some]
  show (if (bp_small p).size + n.size ≤ 9223372036854775807 then (if (bp_small p ++ n).size + c.size ≤ 9223372036854775807 then ((hmac_Tag.f G ((bp_small p ++ n) ++ c)).bind fun t107 => (some t107)) else (none)) else (none)) = _
  rw [if_pos (by omega), if_pos (by omega), bp_tag _ _ (by omega) (by omega), Option.bind_some, bp_stag]
theorem bp_turn (T n c : ByteArray) (hT : T.size = 32) (hn : n.size = 12) (hc : c.size ≤ 1000) : chacha_Turn.f T n c = some (turned T n c) := by
  unfold chacha_Turn.f; rw [if_pos ⟨hT, hn⟩, if_pos (by omega)]
theorem bp_may (T n : ByteArray) (hT : T.size = 32) (hn : n.size = 12) : chacha_May.f T n = some true := by
  unfold chacha_May.f; rw [if_pos (by omega)]
  simp only [Option.some.injEq, beq_iff_eq]; omega
def bp_sealed (T G : ByteArray) (p : Int) (n t : ByteArray) : ByteArray := turned T n t ++ bp_stag G p n (turned T n t)
theorem bp_sealed_size (T G : ByteArray) (p : Int) (n t : ByteArray) : (bp_sealed T G p n t).size = t.size + 32 := by
  rw [bp_sealed, ByteArray.size_append, bp_stag_size, turned_size]
theorem bp_put (T G n t : ByteArray) (p : Int) (hT : T.size = 32) (hG : G.size ≤ 100) (hn : n.size = 12) (ht : t.size ≤ 600) : seal_Put.f T G p n t = some (bp_sealed T G p n t) := by
  have h1 := turned_size T n t
  have h2 := bp_stag_size G p n (turned T n t)
  unfold seal_Put.f
  rw [bp_may T n hT hn, Option.bind_some, if_pos rfl, bp_turn T n t hT hn (by omega), Option.bind_some, bp_stag_f T G n _ p hG (by omega) (by omega), Option.bind_some, if_pos (by omega), bp_sealed]
theorem bp_same_k (a b : ByteArray) (ha : a.size ≤ 600) (hb : b.size ≤ 600) (k : Nat) (hk : 601 ≤ k) : ∃ r, hmac_Same.f k a b = some r ∧ (r = true ↔ a = b) := by
  unfold hmac_Same.f
  by_cases c : a.size = b.size
  · obtain ⟨r, h1, h2⟩ := bp_same_loop a b a.size rfl c.symm ha a.size (k - 1 - a.size) 0 0 (by omega) (by omega)
    rw [show a.size + 1 + (k - 1 - a.size) = k by omega] at h1
    refine ⟨r, by rw [if_pos (by omega)]; exact h1, ?_⟩
    rw [h2]
    constructor
    · rintro ⟨_, h3⟩
      exact same_bytes a b c (fun j hj => h3 j (Nat.zero_le _) hj)
    · rintro rfl
      exact ⟨rfl, fun _ _ _ => rfl⟩
  · refine ⟨false, by rw [if_neg (by omega)], ?_⟩
    constructor
    · intro h; cases h
    · rintro rfl; exact absurd rfl c
def bp_opened (T G : ByteArray) (p : Int) (n s : ByteArray) : ByteArray × Int :=
  if s.size < 32 then (⟨#[]⟩, 2) else if bp_stag G p n (s.extract 0 (s.size - 32)) = s.extract (s.size - 32) s.size then (turned T n (s.extract 0 (s.size - 32)), 0) else (⟨#[]⟩, 100)
theorem bp_get (T G n s : ByteArray) (p : Int) (hT : T.size = 32) (hG : G.size ≤ 100) (hn : n.size = 12) (hs : s.size ≤ 600) (k : Nat) (hk : 602 ≤ k) :
    seal_Get.f k T G p n s = some (bp_opened T G p n s) := by
  obtain ⟨k, rfl⟩ : ∃ d, k = d + 1 := ⟨k - 1, by omega⟩
  have hw : wrap64 ((s.size : Int) - 32) = (s.size : Int) - 32 := by unfold wrap64; omega
  unfold seal_Get.f bp_opened
  rw [hw]
  by_cases c : s.size < 32
  · rw [if_pos (by omega), seal_Get.j0, if_pos rfl, if_pos c]
  · have hn2 : ((s.size : Int) - 32).toNat = s.size - 32 := by omega
    have he : (s.extract 0 (s.size - 32)).size ≤ 600 := by rw [ByteArray.size_extract]; omega
    have he2 : (s.extract (s.size - 32) s.size).size ≤ 600 := by rw [ByteArray.size_extract]; omega
    rw [if_neg (by omega), if_neg c, bp_may T n hT hn, Option.bind_some, seal_Get.j0, if_neg (by decide), if_pos (by omega), if_pos (by omega), hn2, bp_stag_f T G n _ p hG (by omega) he, Option.bind_some]
    obtain ⟨r, h1, h2⟩ := bp_same_k (bp_stag G p n (s.extract 0 (s.size - 32))) (s.extract (s.size - 32) s.size) (by rw [bp_stag_size]; omega) he2 k (by omega)
    rw [h1, Option.bind_some]
    by_cases e : bp_stag G p n (s.extract 0 (s.size - 32)) = s.extract (s.size - 32) s.size
    · rw [if_pos (h2.mpr e), if_pos e, bp_turn T n _ hT hn (by omega), Option.bind_some]
    · rw [if_neg (fun h => e (h2.mp h)), if_neg e]
theorem bp_opened_sealed (T G : ByteArray) (p : Int) (n t : ByteArray) : bp_opened T G p n (bp_sealed T G p n t) = (t, 0) := by
  have h1 := bp_sealed_size T G p n t
  have h2 := turned_size T n t
  have h3 : (bp_sealed T G p n t).extract 0 ((bp_sealed T G p n t).size - 32) = turned T n t := by
    rw [h1, show t.size + 32 - 32 = (turned T n t).size by omega, bp_sealed, extract_left]
  have h4 : (bp_sealed T G p n t).extract ((bp_sealed T G p n t).size - 32) (bp_sealed T G p n t).size = bp_stag G p n (turned T n t) := by
    rw [show (bp_sealed T G p n t).size - 32 = (turned T n t).size by omega, bp_sealed, extract_right]
  rw [bp_opened, if_neg (by omega), h3, h4, if_pos rfl, turned_twice]
theorem bp_mono_add (f : Nat → Option ByteArray) (h : ∀ k, LeO (f k) (f (k + 1))) (k : Nat) (r : ByteArray) (e : f k = some r) : ∀ d, f (k + d) = some r
  | 0 => e
  | d + 1 => h _ _ (bp_mono_add f h k r e d)
def be : Nat → Int → List Int
  | 0, _ => []
  | j + 1, n => be j (n / 256) ++ [n % 256]
theorem be_length (j : Nat) : ∀ n, (be j n).length = j := by
  induction j with
  | zero => intro n; rfl
  | succ j ih => intro n; simp [be, ih]
theorem be_range (j : Nat) : ∀ n, ∀ x ∈ be j n, 0 ≤ x ∧ x ≤ 255 := by
  induction j with
  | zero => intro n x hx; exact absurd hx List.not_mem_nil
  | succ j ih =>
    intro n x hx
    rcases List.mem_append.mp hx with h | h
    · exact ih _ x h
    · rcases List.mem_singleton.mp h with rfl
      omega
theorem small_some (x : Int) : code_Small.f x = some (strOfNums (be 4 x)) := by
  unfold code_Small.f
  congr 2
  simp only [be, List.nil_append, List.cons_append]
  rw [show x / 256 / 256 / 256 = x / 16777216 by omega, show x / 256 / 256 = x / 65536 by omega]
theorem big_some (x : Int) (h0 : 0 ≤ x) (h1 : x < 18446744073709551616) : code_Big.f x = some (strOfNums (be 8 x)) := by
  unfold code_Big.f
  rw [small_some _, small_some _]
  simp only [obs]
  rw [if_pos (by rw [strOfNums_size, strOfNums_size, be_length, be_length]; decide), ← strOfNums_append]
  congr 2
  simp only [be, List.nil_append, List.cons_append, List.cons.injEq, and_true]
  refine ⟨?_, ?_, ?_, ?_, ?_, ?_, ?_, ?_⟩ <;> omega
theorem bytes_some (a rest : ByteArray) (m : Int) (hm : m = a.size) : code_Reader_Bytes.f (a ++ rest) 0 m = some (a, rest, 0) := by
  unfold code_Reader_Bytes.f
  have hs := size_append a rest
  rw [if_neg (by omega), if_neg (by omega)]
  by_cases c : m > 0
  · rw [if_pos c, hm, Int.toNat_natCast, extract_left, extract_right]
  · have h0 : a.size = 0 := by omega
    have ha : a = (⟨#[]⟩ : ByteArray) := by
      apply eq_of_data
      have := data_len a
      rw [List.eq_nil_of_length_eq_zero (this.trans h0)]
    rw [if_neg c, ha, empty_append]
theorem or_byte (q c : Nat) (hc : c < 256) (hq : q * 256 < 18446744073709551616) : Go.bits .or .u64 ((q * 256 : Nat) : Int) (c : Int) = ((q * 256 + c : Nat) : Int) := by
  have h1 : c < 2 ^ 64 := Nat.lt_of_lt_of_le hc (by decide)
  have h2 : c < 2 ^ 8 := hc
  rw [(bits_u .u64 _ _ (q * 256) c rfl rfl hq h1 rfl).2.1, show q * 256 = 2 ^ 8 * q by omega, ← Nat.two_pow_add_eq_or_of_lt h2]
theorem fold_be (j : Nat) : ∀ n : Nat, n < 256 ^ j → n < 18446744073709551616 → code_Reader_high.fold (be j (n : Int)) = (n : Int) := by
  induction j with
  | zero => intro n h _; simp at h; subst h; rfl
  | succ j ih =>
    intro n h h64
    have e1 : (n : Int) / 256 = ((n / 256 : Nat) : Int) := by omega
    have e2 : (n : Int) % 256 = ((n % 256 : Nat) : Int) := by omega
    unfold be
    rw [code_Reader_high.fold_snoc, e1, e2, ih (n / 256) (by rw [Nat.pow_succ] at h; omega) (by omega), wu64s (by omega) (by omega), show (((n / 256 : Nat) : Int) * 256) = ((n / 256 * 256 : Nat) : Int) by omega, or_byte _ _ (by omega) (by omega)]
    omega
theorem high_reads (j : Nat) (n : Int) (h0 : 0 ≤ n) (h1 : n < 18446744073709551616) (hn : n < ((256 ^ j : Nat) : Int)) (hj : j ≤ 8) (rest : ByteArray) (m : Int) (hm : m = j) : code_Reader_high.f (strOfNums (be j n) ++ rest) 0 m = some (n, rest, 0) := by
  obtain ⟨a, rfl⟩ := Int.eq_ofNat_of_zero_le h0
  unfold code_Reader_high.f
  rw [bytes_some _ rest m (by rw [strOfNums_size, be_length]; exact hm), obs, if_pos (by rw [strOfNums_size, be_length]; omega), bytesOf_strOfNums (be_range j _), fold_be j a (Int.ofNat_lt.mp hn) (by omega)]
theorem small_reads (n : Int) (h0 : 0 ≤ n) (h1 : n < 4294967296) (rest : ByteArray) : code_Reader_Small.f (strOfNums (be 4 n) ++ rest) 0 = some (n, rest, 0) := by
  unfold code_Reader_Small.f
  rw [high_reads 4 n h0 (by omega) h1 (by decide) rest 4 rfl, obs, show n % 4294967296 = n by omega]
theorem big_reads (n : Int) (h0 : 0 ≤ n) (h1 : n < 18446744073709551616) (rest : ByteArray) : code_Reader_Big.f (strOfNums (be 8 n) ++ rest) 0 = some (n, rest, 0) := by
  unfold code_Reader_Big.f
  rw [high_reads 8 n h0 h1 h1 (by decide) rest 8 rfl, obs]
def zs (n : Nat) : ByteArray := ⟨(List.replicate n (0 : UInt8)).toArray⟩
theorem zs_size (n : Nat) : (zs n).size = n := by
  show (List.replicate n (0 : UInt8)).toArray.size = n
  simp
theorem zs_data (n : Nat) : (zs n).data.toList = List.replicate n 0 := by simp [zs]
theorem repeat_zs (n : Nat) : Go.Lib.repeatL [0] n = List.replicate n (0 : UInt8) := by
  induction n with
  | zero => rfl
  | succ n ih => rw [Go.Lib.repeatL, ih, List.replicate_succ]; rfl
theorem repeat_some (n : Int) (h0 : 0 ≤ n) (h1 : n ≤ 1000) : strings_Repeat.f (⟨#[0]⟩ : ByteArray) n = some (zs n.toNat) := by
  have hz : ((⟨#[0]⟩ : ByteArray).size : Int) = 1 := rfl
  unfold strings_Repeat.f
  rw [if_pos ⟨h0, by omega, by rw [hz]; omega⟩]
  show some (⟨(Go.Lib.repeatL [0] n.toNat).toArray⟩ : ByteArray) = _
  rw [repeat_zs, zs]
def non (c i : Int) : ByteArray := strOfNums (be 8 c) ++ strOfNums (be 4 i)
theorem non_size (c i : Int) : (non c i).size = 12 := by rw [non, ByteArray.size_append, strOfNums_size, strOfNums_size, be_length, be_length]
theorem nonce_some (e c i : Int) (h0 : 0 ≤ c) (h1 : c < 18446744073709551616) : block_nonce.f e c i = some (non c i) := by
  unfold block_nonce.f
  rw [big_some c h0 h1, Option.bind_some, small_some i, Option.bind_some, if_pos (by rw [strOfNums_size, strOfNums_size, be_length, be_length]; decide), non]
def pln (s : ByteArray) : ByteArray := (strOfNums (be 2 (s.size : Int)) ++ s) ++ zs (462 - s.size)
theorem pln_size (s : ByteArray) (hs : s.size ≤ 462) : (pln s).size = 464 := by
  rw [pln, ByteArray.size_append, ByteArray.size_append, strOfNums_size, be_length, zs_size]; omega
def tk (x : ByteArray) (e : Int) : ByteArray × ByteArray := ((expd (tag (⟨#[108, 111, 100, 101, 115, 116, 111, 110, 101]⟩ : ByteArray) x) (bp_P e) 64).extract 0 32, (expd (tag (⟨#[108, 111, 100, 101, 115, 116, 111, 110, 101]⟩ : ByteArray) x) (bp_P e) 64).extract 32 (expd (tag (⟨#[108, 111, 100, 101, 115, 116, 111, 110, 101]⟩ : ByteArray) x) (bp_P e) 64).size)
theorem tk_1 (x : ByteArray) (e : Int) : (tk x e).1.size = 32 := by
  show ((expd _ _ 64).extract 0 32).size = 32
  rw [ByteArray.size_extract, expd_size]; rfl
theorem tk_2 (x : ByteArray) (e : Int) : (tk x e).2.size ≤ 50 := by
  show ((expd _ _ 64).extract 32 (expd _ _ 64).size).size ≤ 50
  rw [ByteArray.size_extract, expd_size]; decide
theorem keys_some (x : ByteArray) (e : Int) (hx : x.size ≤ 900) (k : Nat) (hk : 300 ≤ k) : keys_Of.f k x e = some (tk x e) := bp_of x e hx k hk
theorem rkeys_some (x : ByteArray) (e : Int) (hx : x.size ≤ 900) (h0 : 0 ≤ e) (h1 : e < 4294967296) (k : Nat) (hk : 300 ≤ k) : lodestoneref09_Keys.f k x e = some (tk x e) := bp_ref_keys x e hx h0 h1 k hk
attribute [local irreducible] tk
def blk (m : ByteArray) (e c i p : Int) (s : ByteArray) : ByteArray := (strOfNums (be 4 e) ++ non c i) ++ bp_sealed (tk m e).1 (tk m e).2 p (non c i) (pln s)
theorem blk_size (m : ByteArray) (e c i p : Int) (s : ByteArray) (hs : s.size ≤ 462) : (blk m e c i p s).size = 512 := by
  rw [blk, ByteArray.size_append, ByteArray.size_append, strOfNums_size, be_length, non_size, bp_sealed_size, pln_size s hs]
theorem be4_2 (n : Nat) (h : n ≤ 462) : strOfNums (be 4 (n : Int)) = strOfNums (be 2 0) ++ strOfNums (be 2 (n : Int)) := by
  rw [← strOfNums_append]
  congr 1
  simp only [be, List.nil_append, List.cons_append, List.cons.injEq, and_true]
  refine ⟨?_, ?_⟩ <;> omega
theorem put_some (m : ByteArray) (e c i p : Int) (s : ByteArray) (hm : m.size ≤ 900) (h0 : 0 ≤ c) (h1 : c < 18446744073709551616) (hs : s.size ≤ 462) (k : Nat) (hk : 300 ≤ k) : block_Put.f k m e c i p s = some (blk m e c i p s) := by
  have e1 : ((s.size : Int)) % 4294967296 = s.size := by omega
  have e2 : (strOfNums (be 4 (s.size : Int))).extract 2 (strOfNums (be 4 (s.size : Int))).size = strOfNums (be 2 (s.size : Int)) := by
    have h2 : (strOfNums (be 2 0)).size = 2 := by rw [strOfNums_size, be_length]
    have h3 := extract_right (strOfNums (be 2 0)) (strOfNums (be 2 (s.size : Int)))
    rw [h2] at h3
    rw [be4_2 s.size hs]
    exact h3
  have e3 : (strOfNums (be 4 (s.size : Int))).size = 4 := by rw [strOfNums_size, be_length]
  have e4 : (strOfNums (be 2 (s.size : Int))).size = 2 := by rw [strOfNums_size, be_length]
  have e5 : (strOfNums (be 2 (s.size : Int)) ++ s).size = 2 + s.size := by rw [ByteArray.size_append, e4]
  have e6 : (462 - (s.size : Int)).toNat = 462 - s.size := by omega
  have e7 : (strOfNums (be 4 e)).size = 4 := by rw [strOfNums_size, be_length]
  have e8 := non_size c i
  have e9 : (strOfNums (be 4 e) ++ non c i).size = 16 := by rw [ByteArray.size_append, e7, e8]
  have e10 := zs_size (462 - s.size)
  have e11 := pln_size s hs
  have e12 := bp_sealed_size (tk m e).1 (tk m e).2 p (non c i) (pln s)
  unfold block_Put.f
  rw [if_neg (by omega), e1, small_some, Option.bind_some, if_pos (by omega), e2, if_pos (by omega), w64 (by omega) (by omega), repeat_some _ (by omega) (by omega), Option.bind_some, e6, if_pos (by omega), small_some, Option.bind_some, nonce_some e c i h0 h1, Option.bind_some, if_pos (by omega),
    keys_some m e hm k hk, Option.bind_some, Option.bind_some, ← pln, bp_put (tk m e).1 (tk m e).2 (non c i) (pln s) p (tk_1 m e) (Nat.le_trans (tk_2 m e) (by decide)) e8 (by omega), Option.bind_some, if_pos (by omega), blk]
theorem head_some (m : ByteArray) (e c i p : Int) (s : ByteArray) (he : 0 ≤ e ∧ e < 4294967296) (hc : 0 ≤ c ∧ c < 18446744073709551616) (hi : 0 ≤ i ∧ i < 4294967296) (hs : s.size ≤ 462) : block_Head.f (blk m e c i p s) = some (e, c, i, 0) := by
  have h := blk_size m e c i p s hs
  unfold block_Head.f
  rw [if_pos (by omega), code_Read.f, Option.bind_some]
  show ((code_Reader_Small.f (blk m e c i p s) 0).bind _) = _
  rw [blk, append_assoc, small_reads e he.1 he.2, Option.bind_some]
  show ((code_Reader_Big.f (non c i ++ _) 0).bind _) = _
  rw [non, append_assoc, big_reads c hc.1 hc.2, Option.bind_some]
  show ((code_Reader_Small.f (strOfNums (be 4 i) ++ _) 0).bind _) = _
  rw [small_reads i hi.1 hi.2, Option.bind_some]
theorem or_two (n : Nat) (h : n ≤ 462) : Go.bits .or .i64 (wrap64 (wrap64 ((n : Int) / 256 % 256) * 256)) (wrap64 ((n : Int) % 256)) = n := by
  rw [w64 (x := (n : Int) / 256 % 256) (by omega) (by omega), w64 (x := (n : Int) / 256 % 256 * 256) (by omega) (by omega), w64 (x := (n : Int) % 256) (by omega) (by omega)]
  rw [Go.bits_join .i64 63 (by decide) (fun n h0 h1 => by rw [Go.IntKind.wrap_i64]; have h2 : n < 9223372036854775808 := h1; omega) 8 _ _ (by omega) (by show _ % 256 = 0; omega) (by show _ < 9223372036854775808; omega) (by omega) (by show _ < 256; omega) (by show _ < 9223372036854775808; omega)]
  omega
theorem drop_zs (n : Nat) : List.dropWhile (· == (0 : UInt8)) (List.replicate n 0) = [] := by
  induction n with
  | zero => rfl
  | succ n ih => rw [List.replicate_succ, List.dropWhile_cons, if_pos (by decide), ih]
theorem trim_zs (n : Nat) (h : n ≤ 1000) : strings_Trim.f (zs n) (⟨#[0]⟩ : ByteArray) = some (⟨#[]⟩ : ByteArray) := by
  have hz := zs_size n
  unfold strings_Trim.f
  rw [if_pos ((toList_data _).trans rfl), if_pos (by omega), zs_data, Go.Lib.trimB, Go.Lib.trimRightB, List.reverse_replicate, drop_zs]
  rfl
theorem bt_app (a b : ByteArray) (j : Nat) (h : j < a.size) : bt (a ++ b) (j : Int) = bt a (j : Int) := by
  have h2 : (bytesOf a).length = a.size := by simp [bytesOf, toList_data, data_len]
  rw [Go.Proofs.YtgbhjkkfleeodaaDoor.XL.bt_nat, Go.Proofs.YtgbhjkkfleeodaaDoor.XL.bt_nat, bytesOf_append, List.getD_eq_getElem?_getD, List.getElem?_append_left (by omega), ← List.getD_eq_getElem?_getD]
theorem bt_nums (l : List Int) (hl : ∀ x ∈ l, 0 ≤ x ∧ x ≤ 255) (j : Nat) : bt (strOfNums l) (j : Int) = l.getD j 0 := by
  rw [Go.Proofs.YtgbhjkkfleeodaaDoor.XL.bt_nat, bytesOf_strOfNums hl]
theorem get_num (n : Nat) (h : n ≤ 462) : ¬ ((n : Int) > 462) ∧ wrap64 (2 + (n : Int)) = 2 + n ∧ 0 ≤ 2 + (n : Int) ∧ 2 + (n : Int) ≤ ((464 : Nat) : Int) ∧ 2 ≤ 2 + (n : Int) ∧ (2 + (n : Int)).toNat = 2 + n ∧ 462 - n ≤ 1000 :=
  ⟨by omega, w64 (by omega) (by omega), by omega, by omega, by omega, by omega, by omega⟩
theorem pln_0 (s : ByteArray) : bt (pln s) 0 = (s.size : Int) / 256 % 256 := by
  have e4 : (strOfNums (be 2 (s.size : Int))).size = 2 := by rw [strOfNums_size, be_length]
  have h := bt_app (strOfNums (be 2 (s.size : Int))) (s ++ zs (462 - s.size)) 0 (by rw [e4]; decide)
  rw [pln, append_assoc]
  refine h.trans ?_
  rw [bt_nums _ (be_range 2 _)]; rfl
theorem pln_1 (s : ByteArray) : bt (pln s) 1 = (s.size : Int) % 256 := by
  have e4 : (strOfNums (be 2 (s.size : Int))).size = 2 := by rw [strOfNums_size, be_length]
  have h := bt_app (strOfNums (be 2 (s.size : Int))) (s ++ zs (462 - s.size)) 1 (by rw [e4]; decide)
  rw [pln, append_assoc]
  refine h.trans ?_
  rw [bt_nums _ (be_range 2 _)]; rfl
theorem pln_tail (s : ByteArray) : (pln s).extract (2 + s.size) (pln s).size = zs (462 - s.size) := by
  have e4 : (strOfNums (be 2 (s.size : Int))).size = 2 := by rw [strOfNums_size, be_length]
  have e5 : (strOfNums (be 2 (s.size : Int)) ++ s).size = 2 + s.size := by rw [ByteArray.size_append, e4]
  have h3 := extract_right (strOfNums (be 2 (s.size : Int)) ++ s) (zs (462 - s.size))
  rw [e5] at h3
  exact h3
theorem pln_mid (s : ByteArray) : (pln s).extract 2 (2 + s.size) = s := by
  have e4 : (strOfNums (be 2 (s.size : Int))).size = 2 := by rw [strOfNums_size, be_length]
  apply eq_of_data
  have l1 : (strOfNums (be 2 (s.size : Int))).data.toList.length = 2 := by rw [data_len, e4]
  have l2 := data_len s
  have l3 : 2 + s.size - 2 = s.data.toList.length := by rw [l2]; exact Nat.add_sub_cancel_left _ _
  rw [extract_data, pln, append_data, append_data, List.append_assoc, List.drop_append_of_le_length (Nat.le_of_eq l1.symm), List.drop_of_length_le (Nat.le_of_eq l1), List.nil_append, l3, List.take_left]
theorem blk_cut (m : ByteArray) (e c i p : Int) (s : ByteArray) : (blk m e c i p s).extract 16 (blk m e c i p s).size = bp_sealed (tk m e).1 (tk m e).2 p (non c i) (pln s) := by
  have e9 : (strOfNums (be 4 e) ++ non c i).size = 16 := by rw [ByteArray.size_append, strOfNums_size, be_length, non_size]
  have h3 := extract_right (strOfNums (be 4 e) ++ non c i) (bp_sealed (tk m e).1 (tk m e).2 p (non c i) (pln s))
  rw [e9] at h3
  exact h3
attribute [local irreducible] blk pln non zs
theorem get_tail (e c i : Int) (s t : ByteArray) (hs : s.size ≤ 462) (hz : t.size = 464) (b0 : bt t 0 = (s.size : Int) / 256 % 256) (b1 : bt t 1 = (s.size : Int) % 256) (x1 : t.extract (2 + s.size) t.size = zs (462 - s.size)) (x2 : t.extract 2 (2 + s.size) = s) :
    (if 0 < (t.size : Int) then (if 1 < (t.size : Int) then (if (Go.bits .or .i64 (wrap64 ((wrap64 (bt t 0)) * 256)) (wrap64 (bt t 1))) > 462 then (some ((0 : Int), (0 : Int), (0 : Int), (⟨#[]⟩ : ByteArray), (3 : Int))) else (if 0 ≤ (wrap64 (2 + (Go.bits .or .i64 (wrap64 ((wrap64 (bt t 0)) * 256)) (wrap64 (bt t 1))))) then (if (wrap64 (2 + (Go.bits .or .i64 (wrap64 ((wrap64 (bt t 0)) * 256)) (wrap64 (bt t 1))))) ≤ (t.size : Int) then ((strings_Trim.f (t.extract ((wrap64 (2 + (Go.bits .or .i64 (wrap64 ((wrap64 (bt t 0)) * 256)) (wrap64 (bt t 1))))) : Int).toNat t.size) (⟨#[0]⟩ : ByteArray)).bind fun t174 => (if t174.toList = ([] : List UInt8) then (if 2 ≤ (wrap64 (2 + (Go.bits .or .i64 (wrap64 ((wrap64 (bt t 0)) * 256)) (wrap64 (bt t 1))))) then (some (e, c, i, t.extract 2 ((wrap64 (2 + (Go.bits .or .i64 (wrap64 ((wrap64 (bt t 0)) * 256)) (wrap64 (bt t 1))))) : Int).toNat, 0)) else (none)) else (some (0, 0, 0, (⟨#[]⟩ : ByteArray), 3)))) else (none)) else (none))) else (none)) else (none)) = some (e, c, i, s, 0) := by
  obtain ⟨n1, n2, n3, n4, n5, n6, n7⟩ := get_num s.size hs
  have p0 : 0 < (t.size : Int) := by rw [hz]; decide
  have p1 : 1 < (t.size : Int) := by rw [hz]; decide
  have p2 : 2 + (s.size : Int) ≤ (t.size : Int) := by rw [hz]; exact n4
  rw [if_pos p0, if_pos p1, b0, b1, or_two s.size hs, n2, n6, if_neg n1, if_pos n3, if_pos p2, x1, trim_zs _ n7, Option.bind_some, if_pos ((toList_data _).trans rfl), if_pos n5, x2]
theorem get_some (m : ByteArray) (e c i p : Int) (s : ByteArray) (hm : m.size ≤ 900) (he : 0 ≤ e ∧ e < 4294967296) (hc : 0 ≤ c ∧ c < 18446744073709551616) (hi : 0 ≤ i ∧ i < 4294967296) (hs : s.size ≤ 462) (k : Nat) (hk : 700 ≤ k) : block_Get.f k m p (blk m e c i p s) = some (e, c, i, s, 0) := by
  have q1 : 300 ≤ k := Nat.le_trans (by decide) hk
  have q2 : 602 ≤ k := Nat.le_trans (by decide) hk
  have h16 : 16 ≤ ((blk m e c i p s).size : Int) := by rw [blk_size m e c i p s hs]; decide
  have hle : (bp_sealed (tk m e).1 (tk m e).2 p (non c i) (pln s)).size ≤ 600 := by rw [bp_sealed_size, pln_size s hs]; decide
  have hg := bp_get (tk m e).1 (tk m e).2 (non c i) _ p (tk_1 m e) (Nat.le_trans (tk_2 m e) (by decide)) (non_size c i) hle k q2
  rw [bp_opened_sealed] at hg
  have ht := get_tail e c i s (pln s) hs (pln_size s hs) (pln_0 s) (pln_1 s) (pln_tail s) (pln_mid s)
  unfold block_Get.f
  rw [head_some m e c i p s he hc hi hs, Option.bind_some, if_pos rfl, keys_some m e hm k q1, Option.bind_some, nonce_some e c i hc.1 hc.2, Option.bind_some, if_pos h16, blk_cut, hg, Option.bind_some, if_pos rfl]
  exact ht
theorem awake_some (k : Nat) (hk : 700 ≤ k) : lodestonelaw11_awake.f k = some true := by
  have hs : (⟨#[116, 101, 120, 116]⟩ : ByteArray).size = 4 := rfl
  have hm : (⟨#[109]⟩ : ByteArray).size = 1 := rfl
  unfold lodestonelaw11_awake.f
  rw [put_some _ 1 2 3 3 _ (by omega) (by decide) (by decide) (by omega) k (by omega), Option.bind_some, get_some _ 1 2 3 3 _ (by omega) (by decide) (by decide) (by decide) (by omega) k hk, Option.bind_some, if_pos rfl, if_pos ((toList_data _).trans rfl)]
  rfl
end Go.Proofs.YtgbhjkkfleeodaaDoor.PureBlk
