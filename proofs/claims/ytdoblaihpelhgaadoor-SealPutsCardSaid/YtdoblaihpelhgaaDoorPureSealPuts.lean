import Derived.Test.YtdoblaihpelhgaaDoorPSealPutsx4
import Derived.Test.YtdoblaihpelhgaaDoorXL
namespace Go.Proofs.YtdoblaihpelhgaaDoor.Pure
open Go.RowKit Go.Proofs.YtdoblaihpelhgaaDoor.PSealPuts Go.Proofs.YtdoblaihpelhgaaDoorW.PrintWords Go.Proofs.YtdoblaihpelhgaaDoorW.PrintLast Go.Proofs.YtdoblaihpelhgaaDoor.XB Go.Proofs.YtdoblaihpelhgaaDoor.XL Go.Proofs.YtdoblaihpelhgaaDoor.Hm
open Go.Proofs.YtdoblaihpelhgaaDoor.Cha hiding xor8
theorem sp_same_loop (a b : ByteArray) (n : Nat) (ha : a.size = n) (hb : b.size = n) (hn : n ≤ 400) :
    ∀ (d e i : Nat) (acc : Int), i + d = n → (0 ≤ acc ∧ acc ≤ 255) → ∃ r, hmac_Same.l0 (d + 1 + e) a b acc (n : Int) (i : Int) = some r ∧ (r = true ↔ acc = 0 ∧ ∀ j, i ≤ j → j < n → bt a (j : Int) = bt b (j : Int)) := by
  intro d
  induction d with
  | zero =>
    intro e i acc h hacc
    refine ⟨acc == 0, ?_, ?_⟩
    · rw [show 0 + 1 + e = e + 1 by omega, hmac_Same.l0, if_neg (by omega)]
    · rw [beq_iff_eq]
      exact ⟨fun h1 => ⟨h1, fun j h2 h3 => by omega⟩, fun h1 => h1.1⟩
  | succ d ih =>
    intro e i acc h hacc
    have hx := (xor8 (bt_range a (i : Int)) (bt_range b (i : Int))).1
    have hor := byte_bits hacc hx
    obtain ⟨r, h1, h2⟩ := ih e (i + 1) (Go.bits .or .u8 acc (Go.bits .xor .u8 (bt a (i : Int)) (bt b (i : Int)))) (by omega) hor.1
    refine ⟨r, ?_, ?_⟩
    · have hw : wrap64 ((i : Int) + 1) = ((i + 1 : Nat) : Int) := by rw [w64 (by omega) (by omega)]; omega
      rw [show d + 1 + 1 + e = (d + 1 + e) + 1 by omega, hmac_Same.l0, if_pos (by omega), if_pos (by omega), if_pos (by omega), if_pos (by omega), hw]
      exact h1
    · rw [h2, hor.2.1, (byte_bits (bt_range a (i : Int)) (bt_range b (i : Int))).2.2.1]
      constructor
      · rintro ⟨⟨h3, h4⟩, h5⟩
        refine ⟨h3, fun j h6 h7 => ?_⟩
        by_cases e : j = i
        · rw [e]; exact h4
        · exact h5 j (by omega) h7
      · rintro ⟨h3, h4⟩
        exact ⟨⟨h3, h4 i (Nat.le_refl _) (by omega)⟩, fun j h5 h6 => h4 j (by omega) h6⟩
theorem sp_same_f (a b : ByteArray) (ha : a.size ≤ 400) (hb : b.size ≤ 400) : ∃ r, hmac_Same.f 500 a b = some r ∧ (r = true ↔ a = b) := by
  unfold hmac_Same.f
  by_cases c : a.size = b.size
  · obtain ⟨r, h1, h2⟩ := sp_same_loop a b a.size rfl c.symm ha a.size (499 - a.size) 0 0 (by omega) (by omega)
    rw [show a.size + 1 + (499 - a.size) = 500 by omega] at h1
    refine ⟨r, by rw [if_pos (by omega)]; exact h1, ?_⟩
    rw [h2]
    constructor
    · rintro ⟨_, h3⟩
      exact same_bytes a b c (fun j hj => h3 j (Nat.zero_le _) hj)
    · rintro rfl
      exact ⟨rfl, fun _ _ _ => rfl⟩
  · refine ⟨false, by rw [if_neg (by omega)], ?_⟩
    constructor
    · intro h; cases h
    · rintro rfl; exact absurd rfl c
theorem sp_turns_inner (x0 x1 x2 : ByteArray) (m : Nat) (hm : 64 * m < x2.size) (hs : x2.size ≤ 1000) (R : ByteArray) (k : Nat) :
    ∀ (d x10 : Nat), 64 * m ≤ x10 → x10 + d = min (64 * m + 64) x2.size → lodestoneref03_Turn.l0 k x0 x1 x2 (tl x0 x1 x2 (min (64 * m + 64) x2.size)) ((64 * m + 64 : Nat) : Int) = some R →
      lodestoneref03_Turn.l1 (k + d + 1) x0 x1 x2 (tl x0 x1 x2 x10) ((64 * m : Nat) : Int) (blk x0 x1 (bno (64 * m))) (x10 : Int) = some R := by
  intro d
  induction d with
  | zero =>
    intro x10 h0 h1 h
    have e1 : wrap64 (((64 * m : Nat) : Int) + 64) = ((64 * m + 64 : Nat) : Int) := by unfold wrap64; omega
    have e2 : x10 = min (64 * m + 64) x2.size := by omega
    rw [lodestoneref03_Turn.l1, e1]
    by_cases c : (x10 : Int) < ((64 * m + 64 : Nat) : Int)
    · rw [if_pos c, if_neg (by omega), e2]; exact h
    · rw [if_neg c, e2]; exact h
  | succ d ih =>
    intro x10 h0 h1 h
    have e1 : wrap64 (((64 * m : Nat) : Int) + 64) = ((64 * m + 64 : Nat) : Int) := by unfold wrap64; omega
    have e3 : wrap64 ((x10 : Int) - ((64 * m : Nat) : Int)) = ((x10 % 64 : Nat) : Int) := by unfold wrap64; omega
    have e4 : wrap64 ((x10 : Int) + 1) = ((x10 + 1 : Nat) : Int) := by unfold wrap64; omega
    have e5 : bno (64 * m) = bno x10 := by unfold bno; rw [show 64 * m / 64 = x10 / 64 by omega]
    rw [lodestoneref03_Turn.l1, e1, e3, e4, if_pos (by omega), if_pos (by omega), if_pos (by omega), if_pos (by omega), if_pos (by rw [blk_size]; omega), if_pos (by rw [tl_length]; omega)]
    have e6 : tl x0 x1 x2 x10 ++ [Go.bits .xor .u8 (bt x2 x10) (bt (blk x0 x1 (bno (64 * m))) ((x10 % 64 : Nat) : Int))] = tl x0 x1 x2 (x10 + 1) := by rw [tl_succ, tb, e5]
    rw [e6, show k + (d + 1) = k + d + 1 by omega]
    exact ih (x10 + 1) (by omega) (by omega) h
theorem sp_turns_outer (x0 x1 x2 : ByteArray) (h0 : x0.size = 32) (h1 : x1.size = 12) (hs : x2.size ≤ 1000) :
    ∀ (r m : Nat), x2.size ≤ 64 * (m + r) → ∃ k, lodestoneref03_Turn.l0 k x0 x1 x2 (tl x0 x1 x2 (min (64 * m) x2.size)) ((64 * m : Nat) : Int) = some (turned x0 x1 x2) := by
  intro r
  induction r with
  | zero =>
    intro m hm
    refine ⟨1, ?_⟩
    rw [lodestoneref03_Turn.l0, if_neg (by omega), show min (64 * m) x2.size = x2.size by omega, turned_tl]
  | succ r ih =>
    intro m hm
    by_cases c : x2.size ≤ 64 * m
    · refine ⟨1, ?_⟩
      rw [lodestoneref03_Turn.l0, if_neg (by omega), show min (64 * m) x2.size = x2.size by omega, turned_tl]
    · obtain ⟨k, hk⟩ := ih (m + 1) (by omega)
      rw [show 64 * (m + 1) = 64 * m + 64 by omega] at hk
      refine ⟨k + (min (64 * m + 64) x2.size - 64 * m) + 1 + 1, ?_⟩
      have e1 : (wrap64 (Int.tdiv ((64 * m : Nat) : Int) 64)) % 4294967296 = bno (64 * m) := by
        rw [td (by omega)]; unfold bno wrap64; omega
      have hb : lodestoneref03_Block.f x0 x1 (bno (64 * m)) = some (blk x0 x1 (bno (64 * m))) := if_pos ⟨h0, h1, by unfold bno; omega, by unfold bno; omega⟩
      rw [lodestoneref03_Turn.l0, if_pos (by omega), e1, hb, Option.bind_some, show min (64 * m) x2.size = 64 * m by omega]
      exact sp_turns_inner x0 x1 x2 m (by omega) hs _ k _ (64 * m) (Nat.le_refl _) (by omega) hk
theorem sp_high (e : Int) (h0 : 0 ≤ e) (h1 : e < 4294967296) (k : Nat) (hk : 300 ≤ k) : lodestoneref04_High.f k e 4 = some (strOfNums [(e / 16777216) % 256, (e / 65536) % 256, (e / 256) % 256, (e) % 256]) := by
  obtain ⟨d, rfl⟩ : ∃ d, k = d + 1 + 1 + 1 + 1 + 1 := ⟨k - 5, by omega⟩
  have w1 : ∀ x : Int, 0 ≤ x → x < 4294967296 → IntKind.u64.wrap (Int.tdiv x 256) = x / 256 := fun x a b => by rw [td a]; exact wu64s (by omega) (by omega)
  have m1 : ∀ x : Int, 0 ≤ x → Int.tmod x 256 = x % 256 := fun x a => tm a
  have s1 : ∀ a : Int, (strOfNums [a]).size = 1 := fun a => by rw [strOfNums_size]; rfl
  have e1 : wrap64 (0 + 1) = 1 := by unfold wrap64; omega
  have e2 : wrap64 (1 + 1) = 2 := by unfold wrap64; omega
  have e3 : wrap64 (2 + 1) = 3 := by unfold wrap64; omega
  have e4 : wrap64 (3 + 1) = 4 := by unfold wrap64; omega
  unfold lodestoneref04_High.f
  rw [lodestoneref04_High.l0, if_pos (by omega), if_pos (by omega), Option.bind_some, s1, if_pos (by decide), e1, w1 e h0 h1, m1 e h0]
  rw [lodestoneref04_High.l0, if_pos (by omega), if_pos (by omega), Option.bind_some, s1, if_pos (by simp [ByteArray.size_append, s1]; try decide), e2, w1 _ (by omega) (by omega), m1 _ (by omega)]
  rw [lodestoneref04_High.l0, if_pos (by omega), if_pos (by omega), Option.bind_some, s1, if_pos (by simp [ByteArray.size_append, s1]; try decide), e3, w1 _ (by omega) (by omega), m1 _ (by omega)]
  rw [lodestoneref04_High.l0, if_pos (by omega), if_pos (by omega), Option.bind_some, s1, if_pos (by simp [ByteArray.size_append, s1]; try decide), e4, w1 _ (by omega) (by omega), m1 _ (by omega)]
  rw [lodestoneref04_High.l0, if_neg (by omega)]
  have em : (⟨#[]⟩ : ByteArray) = strOfNums [] := by apply eq_of_data; rw [strOfNums_data]; rfl
  rw [em, ← strOfNums_append, ← strOfNums_append, ← strOfNums_append, ← strOfNums_append]
  simp only [List.cons_append, List.nil_append]
  congr 2
  refine List.cons_eq_cons.mpr ⟨by omega, List.cons_eq_cons.mpr ⟨by omega, List.cons_eq_cons.mpr ⟨by omega, List.cons_eq_cons.mpr ⟨by omega, rfl⟩⟩⟩⟩
theorem sp_rtag (k s : ByteArray) (hk : k.size ≤ 1000) (hs : s.size ≤ 1000) : lodestoneref01_Tag.f k s = some (tag k s) := by
  unfold lodestoneref01_Tag.f; rw [if_pos ⟨by omega, by omega⟩]
theorem sp_tag (k s : ByteArray) (hk : k.size ≤ 1000) (hs : s.size ≤ 1000) : hmac_Tag.f k s = some (tag k s) := by
  unfold hmac_Tag.f; rw [if_pos ⟨by omega, by omega⟩]
/-- four bytes of a place -/
def sp_small (p : Int) : ByteArray := strOfNums [(p % 4294967296 / 16777216) % 256, (p % 4294967296 / 65536) % 256, (p % 4294967296 / 256) % 256, (p % 4294967296) % 256]
theorem sp_small_size (p : Int) : (sp_small p).size = 4 := by rw [sp_small, strOfNums_size]; rfl
/-- the tag of what is sealed -/
def sp_stag (G : ByteArray) (p : Int) (n c : ByteArray) : ByteArray := tag G ((sp_small p ++ n) ++ c)
theorem sp_stag_size (G : ByteArray) (p : Int) (n c : ByteArray) : (sp_stag G p n c).size = 32 := by rw [sp_stag, tag_size]
theorem sp_stag_f (T G n c : ByteArray) (p : Int) (hG : G.size ≤ 100) (hn : n.size ≤ 100) (hc : c.size ≤ 400) : seal_tag.f T G p n c = some (sp_stag G p n c) := by
  have h1 := sp_small_size p
  have h2 : (sp_small p ++ n).size = 4 + n.size := by rw [ByteArray.size_append, h1]
  have h3 : ((sp_small p ++ n) ++ c).size = 4 + n.size + c.size := by rw [ByteArray.size_append, h2]
  unfold seal_tag.f code_Small.f
  rw [Option.bind_some]
  show (if (sp_small p).size + n.size ≤ 9223372036854775807 then (if (sp_small p ++ n).size + c.size ≤ 9223372036854775807 then ((hmac_Tag.f G ((sp_small p ++ n) ++ c)).bind fun t107 => (some t107)) else (none)) else (none)) = _
  rw [if_pos (by omega), if_pos (by omega), sp_tag _ _ (by omega) (by omega), Option.bind_some, sp_stag]
theorem sp_turn (T n c : ByteArray) (hT : T.size = 32) (hn : n.size = 12) (hc : c.size ≤ 1000) : chacha_Turn.f T n c = some (turned T n c) := by
  unfold chacha_Turn.f; rw [if_pos ⟨hT, hn⟩, if_pos (by omega)]
theorem sp_may (T n : ByteArray) (hT : T.size = 32) (hn : n.size = 12) : chacha_May.f T n = some true := by
  unfold chacha_May.f; rw [if_pos (by omega)]
  simp only [Option.some.injEq, beq_iff_eq]; omega
/-- what is sealed -/
def sp_sealed (T G : ByteArray) (p : Int) (n t : ByteArray) : ByteArray := turned T n t ++ sp_stag G p n (turned T n t)
theorem sp_sealed_size (T G : ByteArray) (p : Int) (n t : ByteArray) : (sp_sealed T G p n t).size = t.size + 32 := by
  rw [sp_sealed, ByteArray.size_append, sp_stag_size, turned_size]
theorem sp_put (T G n t : ByteArray) (p : Int) (hT : T.size = 32) (hG : G.size ≤ 100) (hn : n.size = 12) (ht : t.size ≤ 400) : seal_Put.f T G p n t = some (sp_sealed T G p n t) := by
  have h1 := turned_size T n t
  have h2 := sp_stag_size G p n (turned T n t)
  unfold seal_Put.f
  rw [sp_may T n hT hn, Option.bind_some, if_pos rfl, sp_turn T n t hT hn (by omega), Option.bind_some, sp_stag_f T G n _ p hG (by omega) (by omega), Option.bind_some, if_pos (by omega), sp_sealed]
theorem sp_same_k (a b : ByteArray) (ha : a.size ≤ 400) (hb : b.size ≤ 400) (k : Nat) (hk : 401 ≤ k) : ∃ r, hmac_Same.f k a b = some r ∧ (r = true ↔ a = b) := by
  unfold hmac_Same.f
  by_cases c : a.size = b.size
  · obtain ⟨r, h1, h2⟩ := sp_same_loop a b a.size rfl c.symm ha a.size (k - 1 - a.size) 0 0 (by omega) (by omega)
    rw [show a.size + 1 + (k - 1 - a.size) = k by omega] at h1
    refine ⟨r, by rw [if_pos (by omega)]; exact h1, ?_⟩
    rw [h2]
    constructor
    · rintro ⟨_, h3⟩
      exact same_bytes a b c (fun j hj => h3 j (Nat.zero_le _) hj)
    · rintro rfl
      exact ⟨rfl, fun _ _ _ => rfl⟩
  · refine ⟨false, by rw [if_neg (by omega)], ?_⟩
    constructor
    · intro h; cases h
    · rintro rfl; exact absurd rfl c
/-- what opening tells -/
def sp_opened (T G : ByteArray) (p : Int) (n s : ByteArray) : ByteArray × Int :=
  if s.size < 32 then (⟨#[]⟩, 2) else if sp_stag G p n (s.extract 0 (s.size - 32)) = s.extract (s.size - 32) s.size then (turned T n (s.extract 0 (s.size - 32)), 0) else (⟨#[]⟩, 100)
theorem sp_get (T G n s : ByteArray) (p : Int) (hT : T.size = 32) (hG : G.size ≤ 100) (hn : n.size = 12) (hs : s.size ≤ 400) (k : Nat) (hk : 402 ≤ k) :
    seal_Get.f k T G p n s = some (sp_opened T G p n s) := by
  obtain ⟨k, rfl⟩ : ∃ d, k = d + 1 := ⟨k - 1, by omega⟩
  have hw : wrap64 ((s.size : Int) - 32) = (s.size : Int) - 32 := by unfold wrap64; omega
  unfold seal_Get.f sp_opened
  rw [hw]
  by_cases c : s.size < 32
  · rw [if_pos (by omega), seal_Get.j0, if_pos rfl, if_pos c]
  · have hn2 : ((s.size : Int) - 32).toNat = s.size - 32 := by omega
    have he : (s.extract 0 (s.size - 32)).size ≤ 400 := by rw [ByteArray.size_extract]; omega
    have he2 : (s.extract (s.size - 32) s.size).size ≤ 400 := by rw [ByteArray.size_extract]; omega
    rw [if_neg (by omega), if_neg c, sp_may T n hT hn, Option.bind_some, seal_Get.j0, if_neg (by decide), if_pos (by omega), if_pos (by omega), hn2, sp_stag_f T G n _ p hG (by omega) he, Option.bind_some]
    obtain ⟨r, h1, h2⟩ := sp_same_k (sp_stag G p n (s.extract 0 (s.size - 32))) (s.extract (s.size - 32) s.size) (by rw [sp_stag_size]; omega) he2 k (by omega)
    rw [h1, Option.bind_some]
    by_cases e : sp_stag G p n (s.extract 0 (s.size - 32)) = s.extract (s.size - 32) s.size
    · rw [if_pos (h2.mpr e), if_pos e, sp_turn T n _ hT hn (by omega), Option.bind_some]
    · rw [if_neg (fun h => e (h2.mp h)), if_neg e]
theorem sp_opened_sealed (T G : ByteArray) (p : Int) (n t : ByteArray) : sp_opened T G p n (sp_sealed T G p n t) = (t, 0) := by
  have h1 := sp_sealed_size T G p n t
  have h2 := turned_size T n t
  have h3 : (sp_sealed T G p n t).extract 0 ((sp_sealed T G p n t).size - 32) = turned T n t := by
    rw [h1, show t.size + 32 - 32 = (turned T n t).size by omega, sp_sealed, extract_left]
  have h4 : (sp_sealed T G p n t).extract ((sp_sealed T G p n t).size - 32) (sp_sealed T G p n t).size = sp_stag G p n (turned T n t) := by
    rw [show (sp_sealed T G p n t).size - 32 = (turned T n t).size by omega, sp_sealed, extract_right]
  rw [sp_opened, if_neg (by omega), h3, h4, if_pos rfl, turned_twice]
theorem sp_keys (a : ByteArray) (h : a.size ≤ 140737488351232) : ∃ x : ByteArray × ByteArray, lodestonelaw10_keys.f a = some x ∧ x.1.size = 32 ∧ x.2.size ≤ 50 := by
  have hs : (a ++ (⟨#[48, 49, 50, 51, 52, 53, 54, 55, 56, 57, 97, 98, 99, 100, 101, 102, 48, 49, 50, 51, 52, 53, 54, 55, 56, 57, 97, 98, 99, 100, 101, 102]⟩ : ByteArray)).size = a.size + 32 := by rw [ByteArray.size_append]; rfl
  have g1 : 0 ≤ mn (a.size : Int) 50 := by unfold mn; split <;> omega
  have g2 : mn (a.size : Int) 50 ≤ (a.size : Int) := by unfold mn; split <;> omega
  have g3 : mn (a.size : Int) 50 ≤ 50 := by unfold mn; split <;> omega
  refine ⟨((a ++ (⟨#[48, 49, 50, 51, 52, 53, 54, 55, 56, 57, 97, 98, 99, 100, 101, 102, 48, 49, 50, 51, 52, 53, 54, 55, 56, 57, 97, 98, 99, 100, 101, 102]⟩ : ByteArray)).extract 0 32, a.extract 0 ((mn (a.size : Int) 50) : Int).toNat), ?_, ?_, ?_⟩
  · unfold lodestonelaw10_keys.f
    rw [if_pos (by omega), if_pos (by decide), if_pos (by rw [hs]; omega), if_pos g1, if_pos g2]
  · rw [ByteArray.size_extract, hs]; omega
  · rw [ByteArray.size_extract]; omega
theorem sp_nonce (a : ByteArray) (h : a.size ≤ 140737488351232) : ∃ k, lodestonelaw10_nonce.f a = some k ∧ k.size = 12 := by
  have hs : (a ++ (⟨#[48, 49, 50, 51, 52, 53, 54, 55, 56, 57, 97, 98]⟩ : ByteArray)).size = a.size + 12 := by rw [ByteArray.size_append]; rfl
  refine ⟨(a ++ (⟨#[48, 49, 50, 51, 52, 53, 54, 55, 56, 57, 97, 98]⟩ : ByteArray)).extract 0 12, ?_, ?_⟩
  · unfold lodestonelaw10_nonce.f
    rw [if_pos (by omega), if_pos (by decide), if_pos (by rw [hs]; omega)]
  · rw [ByteArray.size_extract, hs]; omega
theorem sp_awake (k : Nat) (hk : 402 ≤ k) : lodestonelaw10_awake.f k = some true := by
  obtain ⟨x, hx, hT, hG⟩ := sp_keys ⟨#[107]⟩ (by decide)
  obtain ⟨n, hn, hns⟩ := sp_nonce ⟨#[110]⟩ (by decide)
  unfold lodestonelaw10_awake.f
  have h4 : (⟨#[116, 101, 120, 116]⟩ : ByteArray).size = 4 := rfl
  rw [hx, Option.bind_some, hn, Option.bind_some, Option.bind_some, Option.bind_some, sp_put x.1 x.2 n _ 3 hT (by omega) hns (by omega), Option.bind_some, sp_get x.1 x.2 n _ 3 hT (by omega) hns (by rw [sp_sealed_size]; omega) k hk, Option.bind_some, sp_opened_sealed, if_pos rfl]
  simp only [Option.some.injEq, beq_iff_eq]
  rw [toList_data]
theorem sp_mono_add (f : Nat → Option ByteArray) (h : ∀ k, LeO (f k) (f (k + 1))) (k : Nat) (r : ByteArray) (e : f k = some r) : ∀ d, f (k + d) = some r
  | 0 => e
  | d + 1 => h _ _ (sp_mono_add f h k r e d)
theorem sp_ref (T G n t : ByteArray) (p : Int) (hT : T.size = 32) (hG : G.size ≤ 100) (hn : n.size = 12) (ht : t.size ≤ 400) : ∃ k0, ∀ k, k0 ≤ k → lodestoneref10_Seal.f k T G p n t = some (sp_sealed T G p n t) := by
  obtain ⟨k1, h1⟩ := sp_turns_outer T n t hT hn (by omega) 16 0 (by omega)
  have h2 : lodestoneref03_Turn.f k1 T n t = some (turned T n t) := h1
  refine ⟨k1 + 300, fun k hk => ?_⟩
  obtain ⟨d, rfl⟩ : ∃ d, k = k1 + d := ⟨k - k1, by omega⟩
  have h3 := sp_mono_add (fun k => lodestoneref03_Turn.f k T n t) (fun k => lodestoneref03_Turn.mono T n t k) k1 _ h2 d
  have h4 := turned_size T n t
  have h5 := sp_stag_size G p n (turned T n t)
  have h6 := sp_small_size p
  have h7 : (sp_small p ++ n).size = 4 + n.size := by rw [ByteArray.size_append, h6]
  have h8 : ((sp_small p ++ n) ++ turned T n t).size = 4 + n.size + t.size := by rw [ByteArray.size_append, h7, h4]
  have h9 : lodestoneref04_High.f (k1 + d) (p % 4294967296) 4 = some (sp_small p) := sp_high _ (by omega) (by omega) _ (by omega)
  unfold lodestoneref10_Seal.f
  rw [show lodestoneref03_Turn.f (k1 + d) T n t = some (turned T n t) from h3, Option.bind_some, h9, Option.bind_some, if_pos (by omega), if_pos (by omega), sp_rtag _ _ (by omega) (by omega), Option.bind_some, ← sp_stag, if_pos (by omega), sp_sealed]
theorem SealPuts : lodestonelaw10_SealPuts.Pure := by
  intro a0 a1 a2 h0 h1 h2
  have g1 : 0 ≤ mn (a2.size : Int) 300 := by unfold mn; split <;> omega
  have g2 : mn (a2.size : Int) 300 ≤ (a2.size : Int) := by unfold mn; split <;> omega
  have g3 : mn (a2.size : Int) 300 ≤ 300 := by unfold mn; split <;> omega
  have f1 : 0 ≤ mn (a0.size : Int) 80 := by unfold mn; split <;> omega
  have f2 : mn (a0.size : Int) 80 ≤ (a0.size : Int) := by unfold mn; split <;> omega
  have f3 : mn (a0.size : Int) 80 ≤ 80 := by unfold mn; split <;> omega
  obtain ⟨x, hx⟩ : ∃ x, a2.extract 0 ((mn (a2.size : Int) 300) : Int).toNat = x := ⟨_, rfl⟩
  have hxs : x.size ≤ 300 := by rw [← hx, ByteArray.size_extract]; omega
  obtain ⟨y, hy⟩ : ∃ x, a0.extract 0 ((mn (a0.size : Int) 80) : Int).toNat = x := ⟨_, rfl⟩
  have hys : y.size ≤ 80 := by rw [← hy, ByteArray.size_extract]; omega
  obtain ⟨K, hK, hT, hG⟩ := sp_keys y (by omega)
  obtain ⟨n, hn, hns⟩ := sp_nonce a0 h0
  obtain ⟨k0, hk0⟩ := sp_ref K.1 K.2 n x a1 hT (by omega) hns (by omega)
  refine ⟨k0 + 402, ?_⟩
  unfold lodestonelaw10_SealPuts.f
  rw [if_pos g1, if_pos g2, if_pos f1, if_pos f2, hx, hy, hK, Option.bind_some, hn, Option.bind_some, sp_put K.1 K.2 n x a1 hT (by omega) hns (by omega), Option.bind_some, Option.bind_some,
    sp_get K.1 K.2 n _ a1 hT (by omega) hns (by rw [sp_sealed_size]; omega) _ (by omega), Option.bind_some, sp_awake _ (by omega), Option.bind_some, if_pos rfl, Option.bind_some, hk0 _ (by omega), Option.bind_some, if_pos rfl, sp_opened_sealed, if_pos rfl]
  simp
end Go.Proofs.YtdoblaihpelhgaaDoor.Pure
