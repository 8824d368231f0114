import Derived.Test.YtdoblaihpelhgaaDoorPSealGetsx3
import Derived.Test.YtdoblaihpelhgaaDoorXL
namespace Go.Proofs.YtdoblaihpelhgaaDoor.Pure
open Go.RowKit Go.Proofs.YtdoblaihpelhgaaDoor.PSealGets Go.Proofs.YtdoblaihpelhgaaDoorW.PrintWords Go.Proofs.YtdoblaihpelhgaaDoorW.PrintLast Go.Proofs.YtdoblaihpelhgaaDoor.XB Go.Proofs.YtdoblaihpelhgaaDoor.XL Go.Proofs.YtdoblaihpelhgaaDoor.Hm
open Go.Proofs.YtdoblaihpelhgaaDoor.Cha hiding xor8
theorem sp_same_loop (a b : ByteArray) (n : Nat) (ha : a.size = n) (hb : b.size = n) (hn : n ≤ 400) :
    ∀ (d e i : Nat) (acc : Int), i + d = n → (0 ≤ acc ∧ acc ≤ 255) → ∃ r, hmac_Same.l0 (d + 1 + e) a b acc (n : Int) (i : Int) = some r ∧ (r = true ↔ acc = 0 ∧ ∀ j, i ≤ j → j < n → bt a (j : Int) = bt b (j : Int)) := by
  intro d
  induction d with
  | zero =>
    intro e i acc h hacc
    refine ⟨acc == 0, ?_, ?_⟩
    · rw [show 0 + 1 + e = e + 1 by omega, hmac_Same.l0, if_neg (by omega)]
    · rw [beq_iff_eq]
      exact ⟨fun h1 => ⟨h1, fun j h2 h3 => by omega⟩, fun h1 => h1.1⟩
  | succ d ih =>
    intro e i acc h hacc
    have hx := (xor8 (bt_range a (i : Int)) (bt_range b (i : Int))).1
    have hor := byte_bits hacc hx
    obtain ⟨r, h1, h2⟩ := ih e (i + 1) (Go.bits .or .u8 acc (Go.bits .xor .u8 (bt a (i : Int)) (bt b (i : Int)))) (by omega) hor.1
    refine ⟨r, ?_, ?_⟩
    · have hw : wrap64 ((i : Int) + 1) = ((i + 1 : Nat) : Int) := by rw [w64 (by omega) (by omega)]; omega
      rw [show d + 1 + 1 + e = (d + 1 + e) + 1 by omega, hmac_Same.l0, if_pos (by omega), if_pos (by omega), if_pos (by omega), if_pos (by omega), hw]
      exact h1
    · rw [h2, hor.2.1, (byte_bits (bt_range a (i : Int)) (bt_range b (i : Int))).2.2.1]
      constructor
      · rintro ⟨⟨h3, h4⟩, h5⟩
        refine ⟨h3, fun j h6 h7 => ?_⟩
        by_cases e : j = i
        · rw [e]; exact h4
        · exact h5 j (by omega) h7
      · rintro ⟨h3, h4⟩
        exact ⟨⟨h3, h4 i (Nat.le_refl _) (by omega)⟩, fun j h5 h6 => h4 j (by omega) h6⟩
theorem sp_same_f (a b : ByteArray) (ha : a.size ≤ 400) (hb : b.size ≤ 400) : ∃ r, hmac_Same.f 500 a b = some r ∧ (r = true ↔ a = b) := by
  unfold hmac_Same.f
  by_cases c : a.size = b.size
  · obtain ⟨r, h1, h2⟩ := sp_same_loop a b a.size rfl c.symm ha a.size (499 - a.size) 0 0 (by omega) (by omega)
    rw [show a.size + 1 + (499 - a.size) = 500 by omega] at h1
    refine ⟨r, by rw [if_pos (by omega)]; exact h1, ?_⟩
    rw [h2]
    constructor
    · rintro ⟨_, h3⟩
      exact same_bytes a b c (fun j hj => h3 j (Nat.zero_le _) hj)
    · rintro rfl
      exact ⟨rfl, fun _ _ _ => rfl⟩
  · refine ⟨false, by rw [if_neg (by omega)], ?_⟩
    constructor
    · intro h; cases h
    · rintro rfl; exact absurd rfl c
theorem sp_rtag (k s : ByteArray) (hk : k.size ≤ 1000) (hs : s.size ≤ 1000) : lodestoneref01_Tag.f k s = some (tag k s) := by
  unfold lodestoneref01_Tag.f; rw [if_pos ⟨by omega, by omega⟩]
theorem sp_tag (k s : ByteArray) (hk : k.size ≤ 1000) (hs : s.size ≤ 1000) : hmac_Tag.f k s = some (tag k s) := by
  unfold hmac_Tag.f; rw [if_pos ⟨by omega, by omega⟩]
/-- four bytes of a place -/
def sp_small (p : Int) : ByteArray := strOfNums [(p % 4294967296 / 16777216) % 256, (p % 4294967296 / 65536) % 256, (p % 4294967296 / 256) % 256, (p % 4294967296) % 256]
theorem sp_small_size (p : Int) : (sp_small p).size = 4 := by rw [sp_small, strOfNums_size]; rfl
/-- the tag of what is sealed -/
def sp_stag (G : ByteArray) (p : Int) (n c : ByteArray) : ByteArray := tag G ((sp_small p ++ n) ++ c)
theorem sp_stag_size (G : ByteArray) (p : Int) (n c : ByteArray) : (sp_stag G p n c).size = 32 := by rw [sp_stag, tag_size]
theorem sp_stag_f (T G n c : ByteArray) (p : Int) (hG : G.size ≤ 100) (hn : n.size ≤ 100) (hc : c.size ≤ 400) : seal_tag.f T G p n c = some (sp_stag G p n c) := by
  have h1 := sp_small_size p
  have h2 : (sp_small p ++ n).size = 4 + n.size := by rw [ByteArray.size_append, h1]
  have h3 : ((sp_small p ++ n) ++ c).size = 4 + n.size + c.size := by rw [ByteArray.size_append, h2]
  unfold seal_tag.f code_Small.f
  rw [Option.bind_some]
  show (if (sp_small p).size + n.size ≤ 9223372036854775807 then (if (sp_small p ++ n).size + c.size ≤ 9223372036854775807 then ((hmac_Tag.f G ((sp_small p ++ n) ++ c)).bind fun t107 => (some t107)) else (none)) else (none)) = _
  rw [if_pos (by omega), if_pos (by omega), sp_tag _ _ (by omega) (by omega), Option.bind_some, sp_stag]
theorem sp_turn (T n c : ByteArray) (hT : T.size = 32) (hn : n.size = 12) (hc : c.size ≤ 1000) : chacha_Turn.f T n c = some (turned T n c) := by
  unfold chacha_Turn.f; rw [if_pos ⟨hT, hn⟩, if_pos (by omega)]
theorem sp_may (T n : ByteArray) (hT : T.size = 32) (hn : n.size = 12) : chacha_May.f T n = some true := by
  unfold chacha_May.f; rw [if_pos (by omega)]
  simp only [Option.some.injEq, beq_iff_eq]; omega
/-- what is sealed -/
def sp_sealed (T G : ByteArray) (p : Int) (n t : ByteArray) : ByteArray := turned T n t ++ sp_stag G p n (turned T n t)
theorem sp_sealed_size (T G : ByteArray) (p : Int) (n t : ByteArray) : (sp_sealed T G p n t).size = t.size + 32 := by
  rw [sp_sealed, ByteArray.size_append, sp_stag_size, turned_size]
theorem sp_put (T G n t : ByteArray) (p : Int) (hT : T.size = 32) (hG : G.size ≤ 100) (hn : n.size = 12) (ht : t.size ≤ 400) : seal_Put.f T G p n t = some (sp_sealed T G p n t) := by
  have h1 := turned_size T n t
  have h2 := sp_stag_size G p n (turned T n t)
  unfold seal_Put.f
  rw [sp_may T n hT hn, Option.bind_some, if_pos rfl, sp_turn T n t hT hn (by omega), Option.bind_some, sp_stag_f T G n _ p hG (by omega) (by omega), Option.bind_some, if_pos (by omega), sp_sealed]
theorem sp_same_k (a b : ByteArray) (ha : a.size ≤ 400) (hb : b.size ≤ 400) (k : Nat) (hk : 401 ≤ k) : ∃ r, hmac_Same.f k a b = some r ∧ (r = true ↔ a = b) := by
  unfold hmac_Same.f
  by_cases c : a.size = b.size
  · obtain ⟨r, h1, h2⟩ := sp_same_loop a b a.size rfl c.symm ha a.size (k - 1 - a.size) 0 0 (by omega) (by omega)
    rw [show a.size + 1 + (k - 1 - a.size) = k by omega] at h1
    refine ⟨r, by rw [if_pos (by omega)]; exact h1, ?_⟩
    rw [h2]
    constructor
    · rintro ⟨_, h3⟩
      exact same_bytes a b c (fun j hj => h3 j (Nat.zero_le _) hj)
    · rintro rfl
      exact ⟨rfl, fun _ _ _ => rfl⟩
  · refine ⟨false, by rw [if_neg (by omega)], ?_⟩
    constructor
    · intro h; cases h
    · rintro rfl; exact absurd rfl c
/-- what opening tells -/
def sp_opened (T G : ByteArray) (p : Int) (n s : ByteArray) : ByteArray × Int :=
  if s.size < 32 then (⟨#[]⟩, 2) else if sp_stag G p n (s.extract 0 (s.size - 32)) = s.extract (s.size - 32) s.size then (turned T n (s.extract 0 (s.size - 32)), 0) else (⟨#[]⟩, 100)
theorem sp_get (T G n s : ByteArray) (p : Int) (hT : T.size = 32) (hG : G.size ≤ 100) (hn : n.size = 12) (hs : s.size ≤ 400) (k : Nat) (hk : 402 ≤ k) :
    seal_Get.f k T G p n s = some (sp_opened T G p n s) := by
  obtain ⟨k, rfl⟩ : ∃ d, k = d + 1 := ⟨k - 1, by omega⟩
  have hw : wrap64 ((s.size : Int) - 32) = (s.size : Int) - 32 := by unfold wrap64; omega
  unfold seal_Get.f sp_opened
  rw [hw]
  by_cases c : s.size < 32
  · rw [if_pos (by omega), seal_Get.j0, if_pos rfl, if_pos c]
  · have hn2 : ((s.size : Int) - 32).toNat = s.size - 32 := by omega
    have he : (s.extract 0 (s.size - 32)).size ≤ 400 := by rw [ByteArray.size_extract]; omega
    have he2 : (s.extract (s.size - 32) s.size).size ≤ 400 := by rw [ByteArray.size_extract]; omega
    rw [if_neg (by omega), if_neg c, sp_may T n hT hn, Option.bind_some, seal_Get.j0, if_neg (by decide), if_pos (by omega), if_pos (by omega), hn2, sp_stag_f T G n _ p hG (by omega) he, Option.bind_some]
    obtain ⟨r, h1, h2⟩ := sp_same_k (sp_stag G p n (s.extract 0 (s.size - 32))) (s.extract (s.size - 32) s.size) (by rw [sp_stag_size]; omega) he2 k (by omega)
    rw [h1, Option.bind_some]
    by_cases e : sp_stag G p n (s.extract 0 (s.size - 32)) = s.extract (s.size - 32) s.size
    · rw [if_pos (h2.mpr e), if_pos e, sp_turn T n _ hT hn (by omega), Option.bind_some]
    · rw [if_neg (fun h => e (h2.mp h)), if_neg e]
theorem sp_opened_sealed (T G : ByteArray) (p : Int) (n t : ByteArray) : sp_opened T G p n (sp_sealed T G p n t) = (t, 0) := by
  have h1 := sp_sealed_size T G p n t
  have h2 := turned_size T n t
  have h3 : (sp_sealed T G p n t).extract 0 ((sp_sealed T G p n t).size - 32) = turned T n t := by
    rw [h1, show t.size + 32 - 32 = (turned T n t).size by omega, sp_sealed, extract_left]
  have h4 : (sp_sealed T G p n t).extract ((sp_sealed T G p n t).size - 32) (sp_sealed T G p n t).size = sp_stag G p n (turned T n t) := by
    rw [show (sp_sealed T G p n t).size - 32 = (turned T n t).size by omega, sp_sealed, extract_right]
  rw [sp_opened, if_neg (by omega), h3, h4, if_pos rfl, turned_twice]
theorem sp_keys (a : ByteArray) (h : a.size ≤ 140737488351232) : ∃ x : ByteArray × ByteArray, lodestonelaw10_keys.f a = some x ∧ x.1.size = 32 ∧ x.2.size ≤ 50 := by
  have hs : (a ++ (⟨#[48, 49, 50, 51, 52, 53, 54, 55, 56, 57, 97, 98, 99, 100, 101, 102, 48, 49, 50, 51, 52, 53, 54, 55, 56, 57, 97, 98, 99, 100, 101, 102]⟩ : ByteArray)).size = a.size + 32 := by rw [ByteArray.size_append]; rfl
  have g1 : 0 ≤ mn (a.size : Int) 50 := by unfold mn; split <;> omega
  have g2 : mn (a.size : Int) 50 ≤ (a.size : Int) := by unfold mn; split <;> omega
  have g3 : mn (a.size : Int) 50 ≤ 50 := by unfold mn; split <;> omega
  refine ⟨((a ++ (⟨#[48, 49, 50, 51, 52, 53, 54, 55, 56, 57, 97, 98, 99, 100, 101, 102, 48, 49, 50, 51, 52, 53, 54, 55, 56, 57, 97, 98, 99, 100, 101, 102]⟩ : ByteArray)).extract 0 32, a.extract 0 ((mn (a.size : Int) 50) : Int).toNat), ?_, ?_, ?_⟩
  · unfold lodestonelaw10_keys.f
    rw [if_pos (by omega), if_pos (by decide), if_pos (by rw [hs]; omega), if_pos g1, if_pos g2]
  · rw [ByteArray.size_extract, hs]; omega
  · rw [ByteArray.size_extract]; omega
theorem sp_nonce (a : ByteArray) (h : a.size ≤ 140737488351232) : ∃ k, lodestonelaw10_nonce.f a = some k ∧ k.size = 12 := by
  have hs : (a ++ (⟨#[48, 49, 50, 51, 52, 53, 54, 55, 56, 57, 97, 98]⟩ : ByteArray)).size = a.size + 12 := by rw [ByteArray.size_append]; rfl
  refine ⟨(a ++ (⟨#[48, 49, 50, 51, 52, 53, 54, 55, 56, 57, 97, 98]⟩ : ByteArray)).extract 0 12, ?_, ?_⟩
  · unfold lodestonelaw10_nonce.f
    rw [if_pos (by omega), if_pos (by decide), if_pos (by rw [hs]; omega)]
  · rw [ByteArray.size_extract, hs]; omega
theorem sp_awake (k : Nat) (hk : 402 ≤ k) : lodestonelaw10_awake.f k = some true := by
  obtain ⟨x, hx, hT, hG⟩ := sp_keys ⟨#[107]⟩ (by decide)
  obtain ⟨n, hn, hns⟩ := sp_nonce ⟨#[110]⟩ (by decide)
  unfold lodestonelaw10_awake.f
  have h4 : (⟨#[116, 101, 120, 116]⟩ : ByteArray).size = 4 := rfl
  rw [hx, Option.bind_some, hn, Option.bind_some, Option.bind_some, Option.bind_some, sp_put x.1 x.2 n _ 3 hT (by omega) hns (by omega), Option.bind_some, sp_get x.1 x.2 n _ 3 hT (by omega) hns (by rw [sp_sealed_size]; omega) k hk, Option.bind_some, sp_opened_sealed, if_pos rfl]
  simp only [Option.some.injEq, beq_iff_eq]
  rw [toList_data]
theorem SealGets : lodestonelaw10_SealGets.Pure := by
  intro a0 a1 a2 h0 h1 h2
  have g1 : 0 ≤ mn (a1.size : Int) 200 := by unfold mn; split <;> omega
  have g2 : mn (a1.size : Int) 200 ≤ (a1.size : Int) := by unfold mn; split <;> omega
  have g3 : mn (a1.size : Int) 200 ≤ 200 := by unfold mn; split <;> omega
  have f1 : 0 ≤ mn (a0.size : Int) 80 := by unfold mn; split <;> omega
  have f2 : mn (a0.size : Int) 80 ≤ (a0.size : Int) := by unfold mn; split <;> omega
  have f3 : mn (a0.size : Int) 80 ≤ 80 := by unfold mn; split <;> omega
  obtain ⟨x, hx⟩ : ∃ x, a1.extract 0 ((mn (a1.size : Int) 200) : Int).toNat = x := ⟨_, rfl⟩
  have hxs : x.size ≤ 200 := by rw [← hx, ByteArray.size_extract]; omega
  obtain ⟨y, hy⟩ : ∃ x, a0.extract 0 ((mn (a0.size : Int) 80) : Int).toNat = x := ⟨_, rfl⟩
  have hys : y.size ≤ 80 := by rw [← hy, ByteArray.size_extract]; omega
  obtain ⟨K, hK, hT, hG⟩ := sp_keys y (by omega)
  obtain ⟨n, hn, hns⟩ := sp_nonce a0 h0
  refine ⟨402, ?_⟩
  unfold lodestonelaw10_SealGets.f
  rw [if_pos g1, if_pos g2, if_pos f1, if_pos f2, hx, hy, hK, Option.bind_some, hn, Option.bind_some, sp_get K.1 K.2 n x a2 hT (by omega) hns (by omega) _ (by omega), Option.bind_some]
  by_cases c : x.size < 32
  · rw [if_pos (by omega), sp_awake _ (by omega), Option.bind_some, if_pos rfl, sp_opened, if_pos c, if_pos rfl]
    simp only [Option.some.injEq, beq_iff_eq]
    rw [toList_data]
  · have hw : wrap64 ((x.size : Int) - 32) = (x.size : Int) - 32 := by unfold wrap64; omega
    have hn2 : ((x.size : Int) - 32).toNat = x.size - 32 := by omega
    have hm : ([((a2) % 4294967296) / 16777216, (((a2) % 4294967296) / 65536) % 256, (((a2) % 4294967296) / 256) % 256, (a2) % 256] : List Int) = [(a2 % 4294967296 / 16777216) % 256, (a2 % 4294967296 / 65536) % 256, (a2 % 4294967296 / 256) % 256, (a2 % 4294967296) % 256] := by
      rw [show (a2 % 4294967296 / 16777216) % 256 = a2 % 4294967296 / 16777216 by omega, show (a2 % 4294967296) % 256 = a2 % 256 by omega]
    have e1 : (x.extract 0 (x.size - 32)).size = x.size - 32 := by rw [ByteArray.size_extract]; omega
    have h6 := sp_small_size a2
    have h7 : (sp_small a2 ++ n).size = 4 + n.size := by rw [ByteArray.size_append, h6]
    have h8 : ((sp_small a2 ++ n) ++ x.extract 0 (x.size - 32)).size = 4 + n.size + (x.size - 32) := by rw [ByteArray.size_append, h7, e1]
    rw [if_neg (by omega), hm, Option.bind_some, Option.bind_some, hw, hn2, ← sp_small, if_pos (by omega), if_pos (by omega), if_pos (by omega), if_pos (by omega), sp_rtag _ _ (by omega) (by omega), Option.bind_some, sp_awake _ (by omega), Option.bind_some, if_pos rfl, ← sp_stag]
    by_cases e : sp_stag K.2 a2 n (x.extract 0 (x.size - 32)) = x.extract (x.size - 32) x.size
    · have ho : sp_opened K.1 K.2 a2 n x = (turned K.1 n (x.extract 0 (x.size - 32)), 0) := by rw [sp_opened, if_neg c, if_pos e]
      have e2 := turned_size K.1 n (x.extract 0 (x.size - 32))
      rw [ho, if_pos (toList_inj.mpr e), if_pos rfl, if_pos (by show ((turned K.1 n (x.extract 0 (x.size - 32))).size : Int) = _; omega)]
    · have ho : sp_opened K.1 K.2 a2 n x = (⟨#[]⟩, 100) := by rw [sp_opened, if_neg c, if_neg e]
      rw [ho, if_neg (fun h => e (toList_inj.mp h)), if_neg (fun h => e (toList_inj.mp h)), if_pos rfl]
      simp only [Option.some.injEq, beq_iff_eq]
      rw [toList_data]
end Go.Proofs.YtdoblaihpelhgaaDoor.Pure
