import Derived.Test.YtgbhjkkfleeodaaDoorPureBlkB
import Derived.Test.YtgbhjkkfleeodaaDoorPBlockPlacesx2
namespace Go.Proofs.YtgbhjkkfleeodaaDoor.PureBlk
open Go.RowKit Go.Proofs.YtgbhjkkfleeodaaDoor.PBlockPuts Go.Proofs.YtgbhjkkfleeodaaDoorW.PrintWords Go.Proofs.YtgbhjkkfleeodaaDoorW.PrintLast Go.Proofs.YtgbhjkkfleeodaaDoor.XB Go.Proofs.YtgbhjkkfleeodaaDoor.XL Go.Proofs.YtgbhjkkfleeodaaDoor.Hm
open Go.Proofs.YtgbhjkkfleeodaaDoor.Cha hiding xor8
set_option linter.unusedVariables false
set_option linter.unusedSimpArgs false
attribute [local irreducible] tk blk pln non zs raw
theorem blk_raw (m : ByteArray) (e c i p : Int) (s : ByteArray) : blk m e c i p s = raw e c i (bp_sealed (tk m e).1 (tk m e).2 p (non c i) (pln s)) := by
  rw [blk, raw]
theorem law (e c i p q : Int) (a : ByteArray) (he : 0 ≤ e ∧ e < 4294967296) (hc : 0 ≤ c ∧ c < 18446744073709551616) (hi : 0 ≤ i ∧ i < 4294967296) (ha : a.size ≤ 140737488355328) : ∃ k, lodestonelaw11_BlockPlaces.f k e c i p q a = some true := by
  have g1 : 0 ≤ mn (a.size : Int) 400 := by unfold mn; split <;> omega
  have g2 : mn (a.size : Int) 400 ≤ (a.size : Int) := by unfold mn; split <;> omega
  have g3 : mn (a.size : Int) 400 ≤ 400 := by unfold mn; split <;> omega
  obtain ⟨s, hx⟩ : ∃ x, a.extract 0 ((mn (a.size : Int) 400) : Int).toNat = x := ⟨_, rfl⟩
  have hs : s.size ≤ 462 := by rw [← hx, ByteArray.size_extract]; omega
  have hm : (⟨#[109, 97, 115, 116, 101, 114]⟩ : ByteArray).size ≤ 900 := by decide
  have ho : (⟨#[111, 116, 104, 101, 114]⟩ : ByteArray).size ≤ 900 := by decide
  have hy : (bp_sealed (tk (⟨#[109, 97, 115, 116, 101, 114]⟩ : ByteArray) e).1 (tk (⟨#[109, 97, 115, 116, 101, 114]⟩ : ByteArray) e).2 p (non c i) (pln s)).size = 496 := by rw [bp_sealed_size, pln_size s hs]
  have hb := blk_raw (⟨#[109, 97, 115, 116, 101, 114]⟩ : ByteArray) e c i p s
  revert hy hb
  generalize bp_sealed (tk (⟨#[109, 97, 115, 116, 101, 114]⟩ : ByteArray) e).1 (tk (⟨#[109, 97, 115, 116, 101, 114]⟩ : ByteArray) e).2 p (non c i) (pln s) = y
  intro hy hb
  obtain ⟨k0, h0⟩ := ref_get (⟨#[109, 97, 115, 116, 101, 114]⟩ : ByteArray) e c i q y hm he hc hi hy
  obtain ⟨k1, h1⟩ := ref_get (⟨#[111, 116, 104, 101, 114]⟩ : ByteArray) e c i p y ho he hc hi hy
  have z : (raw e c i y).size = 512 := by rw [raw_size, hy]
  have z1 : wrap64 (((raw e c i y).size : Int) / 2) = 256 := by rw [z]; unfold wrap64; decide
  have z2 : (256 : Int) ≤ ((raw e c i y).size : Int) := by rw [z]; decide
  have z3 : ((raw e c i y).extract 0 (256 : Int).toNat).size ≠ 512 := by rw [ByteArray.size_extract, z]; decide
  refine ⟨k0 + k1 + 700, ?_⟩
  have l1 : 300 ≤ k0 + k1 + 700 := by omega
  have l2 : 700 ≤ k0 + k1 + 700 := by omega
  unfold lodestonelaw11_BlockPlaces.f
  rw [if_pos g1, if_pos g2, hx, put_some _ e c i p s hm hc.1 hc.2 hs _ l1, Option.bind_some, hb, get_raw _ e c i q y hm he hc hi hy _ l2, Option.bind_some, h0 _ (by omega), Option.bind_some,
    get_raw _ e c i p y ho he hc hi hy _ l2, Option.bind_some, h1 _ (by omega), Option.bind_some, z1, if_pos (by decide), if_pos z2, head_off _ z3, Option.bind_some, awake_some _ l2, Option.bind_some, if_pos rfl, if_pos rfl, if_pos rfl]
  rfl
theorem lit_u64 {x : Int} (h : (Lit.int .u64 x).wf = true) : 0 ≤ x ∧ x < 18446744073709551616 := by
  have h2 : IntKind.u64.min ≤ x ∧ x ≤ IntKind.u64.max := by simpa [Lit.wf] using h
  have h3 : (0 : Int) ≤ x ∧ x ≤ 18446744073709551615 := h2
  omega
theorem lit_u32 {x : Int} (h : (Lit.int .u32 x).wf = true) : 0 ≤ x ∧ x < 4294967296 := by
  have h2 : IntKind.u32.min ≤ x ∧ x ≤ IntKind.u32.max := by simpa [Lit.wf] using h
  have h3 : (0 : Int) ≤ x ∧ x ≤ 4294967295 := h2
  omega
theorem law_calls (e c i p q : Int) (a : ByteArray) (he : 0 ≤ e ∧ e < 4294967296) (hc : 0 ≤ c ∧ c < 18446744073709551616) (hi : 0 ≤ i ∧ i < 4294967296) (ha : a.size ≤ 140737488355328) (w : World) (hG : Go.Proofs.YtgbhjkkfleeodaaDoor.Sha.SL w) :
    Calls Tryd.prog 5 #[.agg #[.int .u32 e, .int .u64 c, .int .u32 i], .agg #[.int .i64 p, .int .i64 q], .string a] w fun e w' => e = .returned (.bool true) ∧ Below w.heap.size w w' := by
  obtain ⟨k, hk⟩ := law e c i p q a he hc hi ha
  exact lodestonelaw11_BlockPlaces.calls k e c i p q a true w hG hk rfl
end Go.Proofs.YtgbhjkkfleeodaaDoor.PureBlk
