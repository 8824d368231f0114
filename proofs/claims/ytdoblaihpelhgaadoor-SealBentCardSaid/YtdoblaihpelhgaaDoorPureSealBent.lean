/- The plain law of SealBent: where a byte of the tag is another one nothing is opened; keys and nonces that may not be seal nothing. -/
import Derived.Test.YtdoblaihpelhgaaDoorPSealBentx2
import Derived.Test.YtdoblaihpelhgaaDoorXL
namespace Go.Proofs.YtdoblaihpelhgaaDoor.PureB
open Go.RowKit Go.Proofs.YtdoblaihpelhgaaDoor.PSealBent Go.Proofs.YtdoblaihpelhgaaDoorW.PrintWords Go.Proofs.YtdoblaihpelhgaaDoorW.PrintLast Go.Proofs.YtdoblaihpelhgaaDoor.XB Go.Proofs.YtdoblaihpelhgaaDoor.XL Go.Proofs.YtdoblaihpelhgaaDoor.Hm
open Go.Proofs.YtdoblaihpelhgaaDoor.Cha hiding xor8
theorem sb_same_loop (a b : ByteArray) (n : Nat) (ha : a.size = n) (hb : b.size = n) (hn : n ≤ 400) :
    ∀ (d e i : Nat) (acc : Int), i + d = n → (0 ≤ acc ∧ acc ≤ 255) → ∃ r, hmac_Same.l0 (d + 1 + e) a b acc (n : Int) (i : Int) = some r ∧ (r = true ↔ acc = 0 ∧ ∀ j, i ≤ j → j < n → bt a (j : Int) = bt b (j : Int)) := by
  intro d
  induction d with
  | zero =>
    intro e i acc h hacc
    refine ⟨acc == 0, ?_, ?_⟩
    · rw [show 0 + 1 + e = e + 1 by omega, hmac_Same.l0, if_neg (by omega)]
    · rw [beq_iff_eq]
      exact ⟨fun h1 => ⟨h1, fun j h2 h3 => by omega⟩, fun h1 => h1.1⟩
  | succ d ih =>
    intro e i acc h hacc
    have hx := (xor8 (bt_range a (i : Int)) (bt_range b (i : Int))).1
    have hor := byte_bits hacc hx
    obtain ⟨r, h1, h2⟩ := ih e (i + 1) (Go.bits .or .u8 acc (Go.bits .xor .u8 (bt a (i : Int)) (bt b (i : Int)))) (by omega) hor.1
    refine ⟨r, ?_, ?_⟩
    · have hw : wrap64 ((i : Int) + 1) = ((i + 1 : Nat) : Int) := by rw [w64 (by omega) (by omega)]; omega
      rw [show d + 1 + 1 + e = (d + 1 + e) + 1 by omega, hmac_Same.l0, if_pos (by omega), if_pos (by omega), if_pos (by omega), if_pos (by omega), hw]
      exact h1
    · rw [h2, hor.2.1, (byte_bits (bt_range a (i : Int)) (bt_range b (i : Int))).2.2.1]
      constructor
      · rintro ⟨⟨h3, h4⟩, h5⟩
        refine ⟨h3, fun j h6 h7 => ?_⟩
        by_cases e : j = i
        · rw [e]; exact h4
        · exact h5 j (by omega) h7
      · rintro ⟨h3, h4⟩
        exact ⟨⟨h3, h4 i (Nat.le_refl _) (by omega)⟩, fun j h5 h6 => h4 j (by omega) h6⟩
theorem sb_same_f (a b : ByteArray) (ha : a.size ≤ 400) (hb : b.size ≤ 400) : ∃ r, hmac_Same.f 500 a b = some r ∧ (r = true ↔ a = b) := by
  unfold hmac_Same.f
  by_cases c : a.size = b.size
  · obtain ⟨r, h1, h2⟩ := sb_same_loop a b a.size rfl c.symm ha a.size (499 - a.size) 0 0 (by omega) (by omega)
    rw [show a.size + 1 + (499 - a.size) = 500 by omega] at h1
    refine ⟨r, by rw [if_pos (by omega)]; exact h1, ?_⟩
    rw [h2]
    constructor
    · rintro ⟨_, h3⟩
      exact same_bytes a b c (fun j hj => h3 j (Nat.zero_le _) hj)
    · rintro rfl
      exact ⟨rfl, fun _ _ _ => rfl⟩
  · refine ⟨false, by rw [if_neg (by omega)], ?_⟩
    constructor
    · intro h; cases h
    · rintro rfl; exact absurd rfl c
theorem sb_tag (k s : ByteArray) (hk : k.size ≤ 1000) (hs : s.size ≤ 1000) : hmac_Tag.f k s = some (tag k s) := by
  unfold hmac_Tag.f; rw [if_pos ⟨by omega, by omega⟩]
/-- four bytes of a place -/
def sb_small (p : Int) : ByteArray := strOfNums [(p % 4294967296 / 16777216) % 256, (p % 4294967296 / 65536) % 256, (p % 4294967296 / 256) % 256, (p % 4294967296) % 256]
theorem sb_small_size (p : Int) : (sb_small p).size = 4 := by rw [sb_small, strOfNums_size]; rfl
/-- the tag of what is sealed -/
def sb_stag (G : ByteArray) (p : Int) (n c : ByteArray) : ByteArray := tag G ((sb_small p ++ n) ++ c)
theorem sb_stag_size (G : ByteArray) (p : Int) (n c : ByteArray) : (sb_stag G p n c).size = 32 := by rw [sb_stag, tag_size]
theorem sb_stag_f (T G n c : ByteArray) (p : Int) (hG : G.size ≤ 100) (hn : n.size ≤ 100) (hc : c.size ≤ 400) : seal_tag.f T G p n c = some (sb_stag G p n c) := by
  have h1 := sb_small_size p
  have h2 : (sb_small p ++ n).size = 4 + n.size := by rw [ByteArray.size_append, h1]
  have h3 : ((sb_small p ++ n) ++ c).size = 4 + n.size + c.size := by rw [ByteArray.size_append, h2]
  unfold seal_tag.f code_Small.f
  rw [Option.bind_some]
  show (if (sb_small p).size + n.size ≤ 9223372036854775807 then (if (sb_small p ++ n).size + c.size ≤ 9223372036854775807 then ((hmac_Tag.f G ((sb_small p ++ n) ++ c)).bind fun t107 => (some t107)) else (none)) else (none)) = _
  rw [if_pos (by omega), if_pos (by omega), sb_tag _ _ (by omega) (by omega), Option.bind_some, sb_stag]
theorem sb_turn (T n c : ByteArray) (hT : T.size = 32) (hn : n.size = 12) (hc : c.size ≤ 1000) : chacha_Turn.f T n c = some (turned T n c) := by
  unfold chacha_Turn.f; rw [if_pos ⟨hT, hn⟩, if_pos (by omega)]
theorem sb_may (T n : ByteArray) (hT : T.size = 32) (hn : n.size = 12) : chacha_May.f T n = some true := by
  unfold chacha_May.f; rw [if_pos (by omega)]
  simp only [Option.some.injEq, beq_iff_eq]; omega
/-- what is sealed -/
def sb_sealed (T G : ByteArray) (p : Int) (n t : ByteArray) : ByteArray := turned T n t ++ sb_stag G p n (turned T n t)
theorem sb_sealed_size (T G : ByteArray) (p : Int) (n t : ByteArray) : (sb_sealed T G p n t).size = t.size + 32 := by
  rw [sb_sealed, ByteArray.size_append, sb_stag_size, turned_size]
theorem sb_put (T G n t : ByteArray) (p : Int) (hT : T.size = 32) (hG : G.size ≤ 100) (hn : n.size = 12) (ht : t.size ≤ 400) : seal_Put.f T G p n t = some (sb_sealed T G p n t) := by
  have h1 := turned_size T n t
  have h2 := sb_stag_size G p n (turned T n t)
  unfold seal_Put.f
  rw [sb_may T n hT hn, Option.bind_some, if_pos rfl, sb_turn T n t hT hn (by omega), Option.bind_some, sb_stag_f T G n _ p hG (by omega) (by omega), Option.bind_some, if_pos (by omega), sb_sealed]
theorem sb_same_k (a b : ByteArray) (ha : a.size ≤ 400) (hb : b.size ≤ 400) (k : Nat) (hk : 401 ≤ k) : ∃ r, hmac_Same.f k a b = some r ∧ (r = true ↔ a = b) := by
  unfold hmac_Same.f
  by_cases c : a.size = b.size
  · obtain ⟨r, h1, h2⟩ := sb_same_loop a b a.size rfl c.symm ha a.size (k - 1 - a.size) 0 0 (by omega) (by omega)
    rw [show a.size + 1 + (k - 1 - a.size) = k by omega] at h1
    refine ⟨r, by rw [if_pos (by omega)]; exact h1, ?_⟩
    rw [h2]
    constructor
    · rintro ⟨_, h3⟩
      exact same_bytes a b c (fun j hj => h3 j (Nat.zero_le _) hj)
    · rintro rfl
      exact ⟨rfl, fun _ _ _ => rfl⟩
  · refine ⟨false, by rw [if_neg (by omega)], ?_⟩
    constructor
    · intro h; cases h
    · rintro rfl; exact absurd rfl c
/-- what opening tells -/
def sb_opened (T G : ByteArray) (p : Int) (n s : ByteArray) : ByteArray × Int :=
  if s.size < 32 then (⟨#[]⟩, 2) else if sb_stag G p n (s.extract 0 (s.size - 32)) = s.extract (s.size - 32) s.size then (turned T n (s.extract 0 (s.size - 32)), 0) else (⟨#[]⟩, 100)
theorem sb_get (T G n s : ByteArray) (p : Int) (hT : T.size = 32) (hG : G.size ≤ 100) (hn : n.size = 12) (hs : s.size ≤ 400) (k : Nat) (hk : 402 ≤ k) :
    seal_Get.f k T G p n s = some (sb_opened T G p n s) := by
  obtain ⟨k, rfl⟩ : ∃ d, k = d + 1 := ⟨k - 1, by omega⟩
  have hw : wrap64 ((s.size : Int) - 32) = (s.size : Int) - 32 := by unfold wrap64; omega
  unfold seal_Get.f sb_opened
  rw [hw]
  by_cases c : s.size < 32
  · rw [if_pos (by omega), seal_Get.j0, if_pos rfl, if_pos c]
  · have hn2 : ((s.size : Int) - 32).toNat = s.size - 32 := by omega
    have he : (s.extract 0 (s.size - 32)).size ≤ 400 := by rw [ByteArray.size_extract]; omega
    have he2 : (s.extract (s.size - 32) s.size).size ≤ 400 := by rw [ByteArray.size_extract]; omega
    rw [if_neg (by omega), if_neg c, sb_may T n hT hn, Option.bind_some, seal_Get.j0, if_neg (by decide), if_pos (by omega), if_pos (by omega), hn2, sb_stag_f T G n _ p hG (by omega) he, Option.bind_some]
    obtain ⟨r, h1, h2⟩ := sb_same_k (sb_stag G p n (s.extract 0 (s.size - 32))) (s.extract (s.size - 32) s.size) (by rw [sb_stag_size]; omega) he2 k (by omega)
    rw [h1, Option.bind_some]
    by_cases e : sb_stag G p n (s.extract 0 (s.size - 32)) = s.extract (s.size - 32) s.size
    · rw [if_pos (h2.mpr e), if_pos e, sb_turn T n _ hT hn (by omega), Option.bind_some]
    · rw [if_neg (fun h => e (h2.mp h)), if_neg e]
theorem sb_opened_sealed (T G : ByteArray) (p : Int) (n t : ByteArray) : sb_opened T G p n (sb_sealed T G p n t) = (t, 0) := by
  have h1 := sb_sealed_size T G p n t
  have h2 := turned_size T n t
  have h3 : (sb_sealed T G p n t).extract 0 ((sb_sealed T G p n t).size - 32) = turned T n t := by
    rw [h1, show t.size + 32 - 32 = (turned T n t).size by omega, sb_sealed, extract_left]
  have h4 : (sb_sealed T G p n t).extract ((sb_sealed T G p n t).size - 32) (sb_sealed T G p n t).size = sb_stag G p n (turned T n t) := by
    rw [show (sb_sealed T G p n t).size - 32 = (turned T n t).size by omega, sb_sealed, extract_right]
  rw [sb_opened, if_neg (by omega), h3, h4, if_pos rfl, turned_twice]
theorem sb_keys (a : ByteArray) (h : a.size ≤ 140737488351232) : ∃ x : ByteArray × ByteArray, lodestonelaw10_keys.f a = some x ∧ x.1.size = 32 ∧ x.2.size ≤ 50 := by
  have hs : (a ++ (⟨#[48, 49, 50, 51, 52, 53, 54, 55, 56, 57, 97, 98, 99, 100, 101, 102, 48, 49, 50, 51, 52, 53, 54, 55, 56, 57, 97, 98, 99, 100, 101, 102]⟩ : ByteArray)).size = a.size + 32 := by rw [ByteArray.size_append]; rfl
  have g1 : 0 ≤ mn (a.size : Int) 50 := by unfold mn; split <;> omega
  have g2 : mn (a.size : Int) 50 ≤ (a.size : Int) := by unfold mn; split <;> omega
  have g3 : mn (a.size : Int) 50 ≤ 50 := by unfold mn; split <;> omega
  refine ⟨((a ++ (⟨#[48, 49, 50, 51, 52, 53, 54, 55, 56, 57, 97, 98, 99, 100, 101, 102, 48, 49, 50, 51, 52, 53, 54, 55, 56, 57, 97, 98, 99, 100, 101, 102]⟩ : ByteArray)).extract 0 32, a.extract 0 ((mn (a.size : Int) 50) : Int).toNat), ?_, ?_, ?_⟩
  · unfold lodestonelaw10_keys.f
    rw [if_pos (by omega), if_pos (by decide), if_pos (by rw [hs]; omega), if_pos g1, if_pos g2]
  · rw [ByteArray.size_extract, hs]; omega
  · rw [ByteArray.size_extract]; omega
theorem sb_nonce (a : ByteArray) (h : a.size ≤ 140737488351232) : ∃ k, lodestonelaw10_nonce.f a = some k ∧ k.size = 12 := by
  have hs : (a ++ (⟨#[48, 49, 50, 51, 52, 53, 54, 55, 56, 57, 97, 98]⟩ : ByteArray)).size = a.size + 12 := by rw [ByteArray.size_append]; rfl
  refine ⟨(a ++ (⟨#[48, 49, 50, 51, 52, 53, 54, 55, 56, 57, 97, 98]⟩ : ByteArray)).extract 0 12, ?_, ?_⟩
  · unfold lodestonelaw10_nonce.f
    rw [if_pos (by omega), if_pos (by decide), if_pos (by rw [hs]; omega)]
  · rw [ByteArray.size_extract, hs]; omega
theorem sb_awake (k : Nat) (hk : 402 ≤ k) : lodestonelaw10_awake.f k = some true := by
  obtain ⟨x, hx, hT, hG⟩ := sb_keys ⟨#[107]⟩ (by decide)
  obtain ⟨n, hn, hns⟩ := sb_nonce ⟨#[110]⟩ (by decide)
  unfold lodestonelaw10_awake.f
  have h4 : (⟨#[116, 101, 120, 116]⟩ : ByteArray).size = 4 := rfl
  rw [hx, Option.bind_some, hn, Option.bind_some, Option.bind_some, Option.bind_some, sb_put x.1 x.2 n _ 3 hT (by omega) hns (by omega), Option.bind_some, sb_get x.1 x.2 n _ 3 hT (by omega) hns (by rw [sb_sealed_size]; omega) k hk, Option.bind_some, sb_opened_sealed, if_pos rfl]
  simp only [Option.some.injEq, beq_iff_eq]
  rw [toList_data]
abbrev short : ByteArray := ⟨#[115, 104, 111, 114, 116]⟩
abbrev em : ByteArray := ⟨#[]⟩
theorem sb_may_not (T n : ByteArray) (h : T.size ≠ 32 ∨ n.size ≠ 12) : chacha_May.f T n = some false := by
  unfold chacha_May.f
  by_cases c : (T.size : Int) = 32
  · rw [if_pos c]
    have h2 : ¬ (n.size : Int) = 12 := by rcases h with h | h <;> omega
    simp only [Option.some.injEq, beq_eq_false_iff_ne]
    exact h2
  · rw [if_neg c]
theorem sb_put_not (T G n t : ByteArray) (p : Int) (h : T.size ≠ 32 ∨ n.size ≠ 12) : seal_Put.f T G p n t = some em := by
  unfold seal_Put.f
  rw [sb_may_not T n h, Option.bind_some, if_neg (by decide)]
theorem sb_get_not (T G n s : ByteArray) (p : Int) (h : T.size ≠ 32 ∨ n.size ≠ 12) (hs : s.size ≤ 400) (k : Nat) (hk : 1 ≤ k) : seal_Get.f k T G p n s = some (em, 2) := by
  obtain ⟨k, rfl⟩ : ∃ d, k = d + 1 := ⟨k - 1, by omega⟩
  have hw : wrap64 ((s.size : Int) - 32) = (s.size : Int) - 32 := by unfold wrap64; omega
  unfold seal_Get.f
  rw [hw]
  by_cases c : (s.size : Int) - 32 < 0
  · rw [if_pos c, seal_Get.j0, if_pos rfl]
  · rw [if_neg c, sb_may_not T n h, Option.bind_some]
    show seal_Get.j0 (k + 1) _ _ _ _ (!false) _ _ = _
    rw [show (!false) = true from rfl, seal_Get.j0, if_pos rfl]
/-- bytes that are what was sealed but for the tag -/
theorem sb_bent (T G n t B : ByteArray) (p : Int) (hB : B.size = (sb_sealed T G p n t).size) (h : B.extract 0 t.size = (sb_sealed T G p n t).extract 0 t.size) :
    ∃ r1 r2, sb_opened T G p n B = (r1, r2) ∧ ((r2 = 0 ∧ B = sb_sealed T G p n t) ∨ (r2 = 100 ∧ B ≠ sb_sealed T G p n t)) := by
  have h1 := sb_sealed_size T G p n t
  have h2 := turned_size T n t
  have h3 : (sb_sealed T G p n t).extract 0 t.size = turned T n t := by
    rw [show t.size = (turned T n t).size by omega, sb_sealed, extract_left]
  have h4 : (sb_sealed T G p n t).extract t.size (sb_sealed T G p n t).size = sb_stag G p n (turned T n t) := by
    rw [show t.size = (turned T n t).size by omega, sb_sealed, extract_right]
  have h5 : B.size - 32 = t.size := by omega
  have hj : ∀ C : ByteArray, t.size ≤ C.size → C.extract 0 t.size ++ C.extract t.size C.size = C := fun C hC => by
    rw [ByteArray.extract_append_extract, Nat.min_eq_left (Nat.zero_le _), Nat.max_eq_right hC]
    exact ByteArray.extract_zero_size
  have key : sb_stag G p n (B.extract 0 (B.size - 32)) = B.extract (B.size - 32) B.size ↔ B = sb_sealed T G p n t := by
    rw [h5, h, h3, ← h4]
    constructor
    · intro e
      rw [← hj B (by omega), ← hj (sb_sealed T G p n t) (by omega), h, e]
    · intro e
      rw [e]
  unfold sb_opened
  rw [if_neg (by omega)]
  by_cases c : sb_stag G p n (B.extract 0 (B.size - 32)) = B.extract (B.size - 32) B.size
  · rw [if_pos c]
    exact ⟨_, _, rfl, .inl ⟨rfl, key.mp c⟩⟩
  · rw [if_neg c]
    exact ⟨_, _, rfl, .inr ⟨rfl, fun e => c (key.mpr e)⟩⟩
/-- all that the law asks of the functions below -/
theorem facts (a0 y t : ByteArray) (h0 : a0.size ≤ 140737488351232) (hy : y.size ≤ 80) (ht : t.size ≤ 200) :
    ∃ T G n S, lodestonelaw10_keys.f y = some (T, G) ∧ lodestonelaw10_nonce.f a0 = some n ∧ seal_Put.f T G 5 n t = some S ∧ S.size = t.size + 32 ∧
      (∀ B : ByteArray, B.size = S.size → B.extract 0 t.size = S.extract 0 t.size → ∃ r1 r2, seal_Get.f 500 T G 5 n B = some (r1, r2) ∧ ((r2 = 0 ∧ B = S) ∨ (r2 = 100 ∧ B ≠ S))) ∧
      (∀ B : ByteArray, B.size = S.size → seal_Get.f 500 short em 5 n B = some (em, 2)) ∧ seal_Put.f short em 5 n t = some em ∧ seal_Put.f T G 5 short t = some em ∧ lodestonelaw10_awake.f 500 = some true := by
  obtain ⟨K, hK, hT, hG⟩ := sb_keys y (by omega)
  obtain ⟨n, hn, hns⟩ := sb_nonce a0 h0
  obtain ⟨T, G⟩ := K
  simp only at hT hG
  have hz := sb_sealed_size T G 5 n t
  have hs5 : short.size ≠ 32 := by decide
  have hs12 : short.size ≠ 12 := by decide
  refine ⟨T, G, n, _, hK, hn, sb_put T G n t 5 hT (by omega) hns (by omega), hz, ?_, ?_, sb_put_not short em n t 5 (.inl hs5), sb_put_not T G short t 5 (.inr hs12), sb_awake 500 (by decide)⟩
  · intro B hB h
    obtain ⟨r1, r2, h1, h2⟩ := sb_bent T G n t B 5 hB h
    exact ⟨r1, r2, by rw [sb_get T G n B 5 hT (by omega) hns (by omega) 500 (by decide), h1], h2⟩
  · intro B hB
    exact sb_get_not short em n B 5 (.inl hs5) (by omega) 500 (by decide)
end Go.Proofs.YtdoblaihpelhgaaDoor.PureB
