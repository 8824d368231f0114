import Derived.Test.YtfomeaejhljahaaPChachaTurnsx1
import Derived.Test.YtfomeaejhljahaaChaP
namespace Go.Proofs.Ytfomeaejhljahaa.Pure
open Go.RowKit Go.Proofs.Ytfomeaejhljahaa.PChachaTurns Go.Proofs.YtfomeaejhljahaaW.PrintWords Go.Proofs.YtfomeaejhljahaaW.PrintLast Go.Proofs.Ytfomeaejhljahaa.XB Go.Proofs.Ytfomeaejhljahaa.Cha
theorem turns_awake : lodestonelaw03_awake.f = some true := by
  unfold lodestonelaw03_awake.f
  rw [show chacha_Block.f ⟨#[0, 1, 2, 3, 4, 5, 6, 7, 8, 9, 10, 11, 12, 13, 14, 15, 16, 17, 18, 19, 20, 21, 22, 23, 24, 25, 26, 27, 28, 29, 30, 31]⟩ ⟨#[0, 0, 0, 9, 0, 0, 0, 74, 0, 0, 0, 0]⟩ 1 = some (blk awK awN 1) from if_pos ⟨rfl, rfl⟩, Option.bind_some, awB]
  kernel_rfl
theorem turns_key (a : ByteArray) (h : a.size ≤ 140737488351232) : ∃ k, lodestonelaw03_key.f a = some k ∧ k.size = 32 := by
  have hs : (a ++ (⟨#[48, 49, 50, 51, 52, 53, 54, 55, 56, 57, 97, 98, 99, 100, 101, 102, 48, 49, 50, 51, 52, 53, 54, 55, 56, 57, 97, 98, 99, 100, 101, 102]⟩ : ByteArray)).size = a.size + 32 := by rw [ByteArray.size_append]; rfl
  refine ⟨(a ++ (⟨#[48, 49, 50, 51, 52, 53, 54, 55, 56, 57, 97, 98, 99, 100, 101, 102, 48, 49, 50, 51, 52, 53, 54, 55, 56, 57, 97, 98, 99, 100, 101, 102]⟩ : ByteArray)).extract 0 32, ?_, ?_⟩
  · unfold lodestonelaw03_key.f
    rw [if_pos (by omega), if_pos (by decide), if_pos (by rw [hs]; omega)]
  · rw [ByteArray.size_extract, hs]; omega
theorem turns_nonce (a : ByteArray) (h : a.size ≤ 140737488351232) : ∃ k, lodestonelaw03_nonce.f a = some k ∧ k.size = 12 := by
  have hs : (a ++ (⟨#[48, 49, 50, 51, 52, 53, 54, 55, 56, 57, 97, 98]⟩ : ByteArray)).size = a.size + 12 := by rw [ByteArray.size_append]; rfl
  refine ⟨(a ++ (⟨#[48, 49, 50, 51, 52, 53, 54, 55, 56, 57, 97, 98]⟩ : ByteArray)).extract 0 12, ?_, ?_⟩
  · unfold lodestonelaw03_nonce.f
    rw [if_pos (by omega), if_pos (by decide), if_pos (by rw [hs]; omega)]
  · rw [ByteArray.size_extract, hs]; omega
theorem turns_inner (x0 x1 x2 : ByteArray) (m : Nat) (hm : 64 * m < x2.size) (hs : x2.size ≤ 1000) (R : ByteArray) (k : Nat) :
    ∀ (d x10 : Nat), 64 * m ≤ x10 → x10 + d = min (64 * m + 64) x2.size → lodestoneref03_Turn.l0 k x0 x1 x2 (tl x0 x1 x2 (min (64 * m + 64) x2.size)) ((64 * m + 64 : Nat) : Int) = some R →
      lodestoneref03_Turn.l1 (k + d + 1) x0 x1 x2 (tl x0 x1 x2 x10) ((64 * m : Nat) : Int) (blk x0 x1 (bno (64 * m))) (x10 : Int) = some R := by
  intro d
  induction d with
  | zero =>
    intro x10 h0 h1 h
    have e1 : wrap64 (((64 * m : Nat) : Int) + 64) = ((64 * m + 64 : Nat) : Int) := by unfold wrap64; omega
    have e2 : x10 = min (64 * m + 64) x2.size := by omega
    rw [lodestoneref03_Turn.l1, e1]
    by_cases c : (x10 : Int) < ((64 * m + 64 : Nat) : Int)
    · rw [if_pos c, if_neg (by omega), e2]; exact h
    · rw [if_neg c, e2]; exact h
  | succ d ih =>
    intro x10 h0 h1 h
    have e1 : wrap64 (((64 * m : Nat) : Int) + 64) = ((64 * m + 64 : Nat) : Int) := by unfold wrap64; omega
    have e3 : wrap64 ((x10 : Int) - ((64 * m : Nat) : Int)) = ((x10 % 64 : Nat) : Int) := by unfold wrap64; omega
    have e4 : wrap64 ((x10 : Int) + 1) = ((x10 + 1 : Nat) : Int) := by unfold wrap64; omega
    have e5 : bno (64 * m) = bno x10 := by unfold bno; rw [show 64 * m / 64 = x10 / 64 by omega]
    rw [lodestoneref03_Turn.l1, e1, e3, e4, if_pos (by omega), if_pos (by omega), if_pos (by omega), if_pos (by omega), if_pos (by rw [blk_size]; omega), if_pos (by rw [tl_length]; omega)]
    have e6 : tl x0 x1 x2 x10 ++ [Go.bits .xor .u8 (bt x2 x10) (bt (blk x0 x1 (bno (64 * m))) ((x10 % 64 : Nat) : Int))] = tl x0 x1 x2 (x10 + 1) := by rw [tl_succ, tb, e5]
    rw [e6, show k + (d + 1) = k + d + 1 by omega]
    exact ih (x10 + 1) (by omega) (by omega) h
theorem turns_outer (x0 x1 x2 : ByteArray) (h0 : x0.size = 32) (h1 : x1.size = 12) (hs : x2.size ≤ 1000) :
    ∀ (r m : Nat), x2.size ≤ 64 * (m + r) → ∃ k, lodestoneref03_Turn.l0 k x0 x1 x2 (tl x0 x1 x2 (min (64 * m) x2.size)) ((64 * m : Nat) : Int) = some (turned x0 x1 x2) := by
  intro r
  induction r with
  | zero =>
    intro m hm
    refine ⟨1, ?_⟩
    rw [lodestoneref03_Turn.l0, if_neg (by omega), show min (64 * m) x2.size = x2.size by omega, turned_tl]
  | succ r ih =>
    intro m hm
    by_cases c : x2.size ≤ 64 * m
    · refine ⟨1, ?_⟩
      rw [lodestoneref03_Turn.l0, if_neg (by omega), show min (64 * m) x2.size = x2.size by omega, turned_tl]
    · obtain ⟨k, hk⟩ := ih (m + 1) (by omega)
      rw [show 64 * (m + 1) = 64 * m + 64 by omega] at hk
      refine ⟨k + (min (64 * m + 64) x2.size - 64 * m) + 1 + 1, ?_⟩
      have e1 : (wrap64 (Int.tdiv ((64 * m : Nat) : Int) 64)) % 4294967296 = bno (64 * m) := by
        rw [td (by omega)]; unfold bno wrap64; omega
      have hb : lodestoneref03_Block.f x0 x1 (bno (64 * m)) = some (blk x0 x1 (bno (64 * m))) := if_pos ⟨h0, h1, by unfold bno; omega, by unfold bno; omega⟩
      rw [lodestoneref03_Turn.l0, if_pos (by omega), e1, hb, Option.bind_some, show min (64 * m) x2.size = 64 * m by omega]
      exact turns_inner x0 x1 x2 m (by omega) hs _ k _ (64 * m) (Nat.le_refl _) (by omega) hk
theorem ChachaTurns : lodestonelaw03_ChachaTurns.Pure := by
  intro a0 a1 a2 h0 h1 h2
  obtain ⟨key, hk, hks⟩ := turns_key a0 h0
  obtain ⟨n, hn, hns⟩ := turns_nonce a1 h1
  have g1 : 0 ≤ mn (a2.size : Int) 500 := by unfold mn; split <;> omega
  have g2 : mn (a2.size : Int) 500 ≤ (a2.size : Int) := by unfold mn; split <;> omega
  have g3 : mn (a2.size : Int) 500 ≤ 500 := by unfold mn; split <;> omega
  obtain ⟨x, hx⟩ : ∃ x, a2.extract 0 ((mn (a2.size : Int) 500) : Int).toNat = x := ⟨_, rfl⟩
  have hxs : x.size ≤ 1000 := by rw [← hx, ByteArray.size_extract]; omega
  obtain ⟨k, hkk⟩ := turns_outer key n x hks hns hxs 16 0 (by omega)
  have hT : ∀ y : ByteArray, y.size ≤ 1000 → chacha_Turn.f key n y = some (turned key n y) := fun y hy => by unfold chacha_Turn.f; rw [if_pos ⟨hks, hns⟩, if_pos (by omega)]
  have hR : lodestoneref03_Turn.f k key n x = some (turned key n x) := hkk
  refine ⟨k, ?_⟩
  unfold lodestonelaw03_ChachaTurns.f
  rw [if_pos g1, if_pos g2, hx, hk, Option.bind_some, hn, Option.bind_some, hT x hxs, Option.bind_some, turns_awake, Option.bind_some, if_pos rfl, Option.bind_some, Option.bind_some, hR, Option.bind_some, if_pos rfl, Option.bind_some, Option.bind_some, hT _ (by rw [turned_size]; exact hxs), Option.bind_some, turned_twice]
  simp
end Go.Proofs.Ytfomeaejhljahaa.Pure
