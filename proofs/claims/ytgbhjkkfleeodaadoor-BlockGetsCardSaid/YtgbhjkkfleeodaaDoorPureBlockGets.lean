/- The plain law of BlockGets: whatever bytes come, what is read of them is what the document reads, or the same error. -/
import Derived.Test.YtgbhjkkfleeodaaDoorPureBlkB
import Derived.Test.YtgbhjkkfleeodaaDoorPBlockGetsx2
namespace Go.Proofs.YtgbhjkkfleeodaaDoor.PureBlk
open Go.RowKit Go.Proofs.YtgbhjkkfleeodaaDoor.PBlockPuts Go.Proofs.YtgbhjkkfleeodaaDoorW.PrintWords Go.Proofs.YtgbhjkkfleeodaaDoorW.PrintLast Go.Proofs.YtgbhjkkfleeodaaDoor.XB Go.Proofs.YtgbhjkkfleeodaaDoor.XL Go.Proofs.YtgbhjkkfleeodaaDoor.Hm
open Go.Proofs.YtgbhjkkfleeodaaDoor.Cha hiding xor8
set_option linter.unusedVariables false
set_option linter.unusedSimpArgs false
attribute [local irreducible] tk blk pln non zs raw
theorem ref_off (m x : ByteArray) (p : Int) (k : Nat) (h : x.size ≠ 512) : lodestoneref11_Get.f k m p x = some (0, 0, 0, (⟨#[]⟩ : ByteArray), 2) := by
  unfold lodestoneref11_Get.f
  rw [if_neg (by omega)]
theorem get_off (m x : ByteArray) (p : Int) (k : Nat) (h : x.size ≠ 512) : block_Get.f k m p x = some (0, 0, 0, (⟨#[]⟩ : ByteArray), 2) := by
  unfold block_Get.f
  rw [head_off x h, Option.bind_some, if_neg (by decide)]
theorem be_of (j : Nat) : ∀ l : List Int, l.length = j → (∀ x ∈ l, 0 ≤ x ∧ x ≤ 255) → ∃ n : Nat, n < 256 ^ j ∧ be j (n : Int) = l := by
  induction j with
  | zero => intro l h _; exact ⟨0, by decide, (List.eq_nil_of_length_eq_zero h).symm⟩
  | succ j ih =>
    intro l h hr
    have hne : l ≠ [] := by intro e; rw [e] at h; exact absurd h (by simp)
    have hl := List.dropLast_concat_getLast hne
    obtain ⟨n, hn, hb⟩ := ih l.dropLast (by rw [List.length_dropLast, h]; rfl) (fun x hx => hr x ((List.dropLast_sublist l).subset hx))
    have hz := hr _ (List.getLast_mem hne)
    obtain ⟨z, hz2⟩ : ∃ z : Nat, l.getLast hne = (z : Int) := ⟨(l.getLast hne).toNat, by omega⟩
    rw [hz2] at hz hl
    refine ⟨n * 256 + z, ?_, ?_⟩
    · rw [Nat.pow_succ]; generalize 256 ^ j = q at hn; omega
    · clear hn
      rw [be, show ((n * 256 + z : Nat) : Int) / 256 = (n : Int) by omega, show ((n * 256 + z : Nat) : Int) % 256 = (z : Int) by omega, hb]
      exact hl
theorem bytesOf_range (s : ByteArray) : ∀ x ∈ bytesOf s, 0 ≤ x ∧ x ≤ 255 := by
  intro x hx
  obtain ⟨b, _, rfl⟩ := List.mem_map.mp hx
  have := b.toNat_lt
  exact ⟨Int.natCast_nonneg _, by omega⟩
theorem part_be (s : ByteArray) (j : Nat) (h : s.size = j) : ∃ n : Nat, n < 256 ^ j ∧ s = strOfNums (be j (n : Int)) := by
  obtain ⟨n, h1, h2⟩ := be_of j (bytesOf s) (by rw [show (bytesOf s).length = s.size by simp [bytesOf, data_len]]; exact h) (bytesOf_range s)
  exact ⟨n, h1, by rw [h2, strOfNums_bytesOf]⟩
theorem cut_join (x : ByteArray) (a b c : Nat) (h1 : a ≤ b) (h2 : b ≤ c) : x.extract a b ++ x.extract b c = x.extract a c := by
  apply eq_of_data
  rw [append_data, extract_data, extract_data, extract_data]
  have e : x.data.toList.drop b = (x.data.toList.drop a).drop (b - a) := by rw [List.drop_drop]; congr 1; omega
  rw [e, show c - a = (b - a) + (c - b) by omega, List.take_add]
/-- any block is a head and what is sealed -/
theorem split16 (x : ByteArray) (hx : x.size = 512) : ∃ (e c i : Int) (y : ByteArray), (0 ≤ e ∧ e < 4294967296) ∧ (0 ≤ c ∧ c < 18446744073709551616) ∧ (0 ≤ i ∧ i < 4294967296) ∧ y.size = 496 ∧ x = raw e c i y := by
  have s1 : (x.extract 0 4).size = 4 := by rw [ByteArray.size_extract, hx]; rfl
  have s2 : (x.extract 4 12).size = 8 := by rw [ByteArray.size_extract, hx]; rfl
  have s3 : (x.extract 12 16).size = 4 := by rw [ByteArray.size_extract, hx]; rfl
  have s4 : (x.extract 16 512).size = 496 := by rw [ByteArray.size_extract, hx]; rfl
  obtain ⟨e, he, e1⟩ := part_be _ 4 s1
  obtain ⟨c, hc, e2⟩ := part_be _ 8 s2
  obtain ⟨i, hi, e3⟩ := part_be _ 4 s3
  refine ⟨e, c, i, x.extract 16 512, ⟨by omega, Int.ofNat_lt.mpr he⟩, ⟨by omega, Int.ofNat_lt.mpr hc⟩, ⟨by omega, Int.ofNat_lt.mpr hi⟩, s4, ?_⟩
  rw [raw, non, ← e1, ← e2, ← e3, cut_join x 4 12 16 (by decide) (by decide), cut_join x 0 4 16 (by decide) (by decide), cut_join x 0 16 512 (by decide) (by decide)]
  have h := extract_all x
  rw [hx] at h
  exact h.symm
/-- the tail of the law, of any block -/
theorem both_some (p : Int) (x : ByteArray) (hx : x.size = 512) : ∃ k0 r, ∀ k, k0 ≤ k → block_Get.f k (⟨#[109, 97, 115, 116, 101, 114]⟩ : ByteArray) p x = some r ∧ lodestoneref11_Get.f k (⟨#[109, 97, 115, 116, 101, 114]⟩ : ByteArray) p x = some r := by
  have hm : (⟨#[109, 97, 115, 116, 101, 114]⟩ : ByteArray).size ≤ 900 := by decide
  obtain ⟨e, c, i, y, he, hc, hi, hy, rfl⟩ := split16 x hx
  obtain ⟨k0, h0⟩ := ref_get (⟨#[109, 97, 115, 116, 101, 114]⟩ : ByteArray) e c i p y hm he hc hi hy
  exact ⟨k0 + 700, _, fun k hk => ⟨get_raw _ e c i p y hm he hc hi hy k (by omega), h0 k (by omega)⟩⟩
theorem law_tail (p : Int) (x : ByteArray) : ∃ k0, ∀ k, k0 ≤ k → ((block_Get.f k (⟨#[109, 97, 115, 116, 101, 114]⟩ : ByteArray) p x).bind fun bt253 => ((lodestoneref11_Get.f k (⟨#[109, 97, 115, 116, 101, 114]⟩ : ByteArray) p x).bind fun bt259 => ((lodestonelaw11_awake.f k).bind fun t265 => (if t265 = true then (if bt253.2.2.2.2 = bt259.2.2.2.2 then (if (bt253.1 == bt259.1 && (bt253.2.1 == bt259.2.1 && (bt253.2.2.1 == bt259.2.2.1))) = true then (some (bt253.2.2.2.1.toList == bt259.2.2.2.1.toList)) else (some false)) else (some false)) else (some false))))) = some true := by
  have close : ∀ (k : Nat) (r : Int × Int × Int × ByteArray × Int), 700 ≤ k → block_Get.f k (⟨#[109, 97, 115, 116, 101, 114]⟩ : ByteArray) p x = some r → lodestoneref11_Get.f k (⟨#[109, 97, 115, 116, 101, 114]⟩ : ByteArray) p x = some r → ((block_Get.f k (⟨#[109, 97, 115, 116, 101, 114]⟩ : ByteArray) p x).bind fun bt253 => ((lodestoneref11_Get.f k (⟨#[109, 97, 115, 116, 101, 114]⟩ : ByteArray) p x).bind fun bt259 => ((lodestonelaw11_awake.f k).bind fun t265 => (if t265 = true then (if bt253.2.2.2.2 = bt259.2.2.2.2 then (if (bt253.1 == bt259.1 && (bt253.2.1 == bt259.2.1 && (bt253.2.2.1 == bt259.2.2.1))) = true then (some (bt253.2.2.2.1.toList == bt259.2.2.2.1.toList)) else (some false)) else (some false)) else (some false))))) = some true := by
    intro k r hk h1 h2
    rw [h1, h2, Option.bind_some, Option.bind_some, awake_some k hk, Option.bind_some, if_pos rfl, if_pos rfl, if_pos (by simp), beq_self_eq_true]
  by_cases hx : x.size = 512
  · obtain ⟨k0, r, h⟩ := both_some p x hx
    exact ⟨k0 + 700, fun k hk => close k r (by omega) (h k (by omega)).1 (h k (by omega)).2⟩
  · exact ⟨700, fun k hk => close k _ hk (get_off _ x p k hx) (ref_off _ x p k hx)⟩
theorem law_j (p : Int) (b : Bool) (x : ByteArray) (h5 : 512 ≤ x.size) : ∃ k0, ∀ k, k0 ≤ k → lodestonelaw11_BlockGets.j0 (k + 1) p b x = some true := by
  have hm : (⟨#[109, 97, 115, 116, 101, 114]⟩ : ByteArray).size ≤ 900 := by decide
  cases b with
  | false =>
    obtain ⟨k0, h0⟩ := law_tail p x
    refine ⟨k0, fun k hk => ?_⟩
    rw [lodestonelaw11_BlockGets.j0, if_neg (by decide)]
    exact h0 k hk
  | true =>
    have hz : (x.extract 0 512).size = 512 := by rw [ByteArray.size_extract]; omega
    obtain ⟨e, c, i, y, he, hc, hi, hy, hr⟩ := split16 _ hz
    have a1 : (512 : Int) ≤ (x.size : Int) := by omega
    have a2 : (480 : Int) ≤ (x.size : Int) := by omega
    have a3 : (x.extract 4 480).size = 476 := by rw [ByteArray.size_extract]; omega
    have a4 : (x.extract 0 480).size = 480 := by rw [ByteArray.size_extract]; omega
    obtain ⟨S, hS⟩ : ∃ S, strOfNums ([((p) % 4294967296) / 16777216, (((p) % 4294967296) / 65536) % 256, (((p) % 4294967296) / 256) % 256, ((p) % 4294967296) % 256] : List Int) = S := ⟨_, rfl⟩
    have a5 : S.size = 4 := by rw [← hS, strOfNums_size]; rfl
    have a6 : S.size + (x.extract 4 480).size ≤ 9223372036854775807 := by omega
    have a7 : (S ++ x.extract 4 480).size ≤ 1000 := by rw [ByteArray.size_append]; omega
    obtain ⟨G, hG⟩ : ∃ G, tag (tk (⟨#[109, 97, 115, 116, 101, 114]⟩ : ByteArray) e).2 (S ++ x.extract 4 480) = G := ⟨_, rfl⟩
    have a8 : G.size = 32 := by rw [← hG, tag_size]
    have a9 : (x.extract 0 480).size + G.size ≤ 9223372036854775807 := by omega
    have hT : lodestoneref01_Tag.f (tk (⟨#[109, 97, 115, 116, 101, 114]⟩ : ByteArray) e).2 (S ++ x.extract 4 480) = some G := by
      rw [bp_rtag _ _ (Nat.le_trans (tk_2 _ e) (by decide)) a7, hG]
    obtain ⟨k0, h0⟩ := law_tail p (x.extract 0 480 ++ G)
    clear a3 a4 a5 a7 a8 hG hy
    refine ⟨k0 + 700, fun k hk => ?_⟩
    have l1 : 300 ≤ k := by omega
    have l2 : k0 ≤ k := by omega
    have hH : block_Head.f (x.extract 0 512) = some (e, c, i, 0) := by rw [hr]; exact head_raw e c i y he hc hi (by have := raw_size e c i y; rw [← hr, hz] at this; omega)
    rw [lodestonelaw11_BlockGets.j0, if_pos rfl, if_pos (by decide), if_pos a1, hH, Option.bind_some, rkeys_some _ e hm he.1 he.2 k l1, Option.bind_some, if_pos (by decide), if_pos a2, Option.bind_some, if_pos (by decide), hS, if_pos a6, hT, Option.bind_some, if_pos a9]
    exact h0 k l2
theorem law (a : ByteArray) (p : Int) (b : Bool) : ∃ k, lodestonelaw11_BlockGets.f k a p b = some true := by
  by_cases h : 512 < a.size
  · obtain ⟨k0, h0⟩ := law_j p b a (by omega)
    refine ⟨k0 + 1, ?_⟩
    unfold lodestonelaw11_BlockGets.f
    rw [if_pos (by omega)]
    exact h0 k0 (Nat.le_refl _)
  · have hs := Bg.pad_size a
    obtain ⟨k0, h0⟩ := law_j p b (Bg.pad a) (by omega)
    refine ⟨k0 + 1, ?_⟩
    unfold lodestonelaw11_BlockGets.f
    rw [if_neg (by omega)]
    exact h0 k0 (Nat.le_refl _)
theorem gets_calls (a : ByteArray) (p : Int) (b : Bool) (w : World) (hG : Go.Proofs.YtgbhjkkfleeodaaDoor.Sha.SL w) :
    Calls Tryd.prog 4 #[.string a, .int .i64 p, .bool b] w fun e w' => e = .returned (.bool true) ∧ Below w.heap.size w w' := by
  obtain ⟨k, hk⟩ := law a p b
  exact lodestonelaw11_BlockGets.calls k a p b true w hG hk rfl
end Go.Proofs.YtgbhjkkfleeodaaDoor.PureBlk
