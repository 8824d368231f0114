import Derived.Test.YtfomeaejhljahaaPChachaBlocksx1
import Derived.Test.YtfomeaejhljahaaChaP
namespace Go.Proofs.Ytfomeaejhljahaa.Pure
open Go.RowKit Go.Proofs.Ytfomeaejhljahaa.PChachaBlocks Go.Proofs.YtfomeaejhljahaaW.PrintWords Go.Proofs.YtfomeaejhljahaaW.PrintLast Go.Proofs.Ytfomeaejhljahaa.XB Go.Proofs.Ytfomeaejhljahaa.Cha
theorem blocks_awake : lodestonelaw03_awake.f = some true := by
  unfold lodestonelaw03_awake.f
  rw [show chacha_Block.f ⟨#[0, 1, 2, 3, 4, 5, 6, 7, 8, 9, 10, 11, 12, 13, 14, 15, 16, 17, 18, 19, 20, 21, 22, 23, 24, 25, 26, 27, 28, 29, 30, 31]⟩ ⟨#[0, 0, 0, 9, 0, 0, 0, 74, 0, 0, 0, 0]⟩ 1 = some (blk awK awN 1) from if_pos ⟨rfl, rfl⟩, Option.bind_some, awB]
  kernel_rfl
theorem blocks_key (a : ByteArray) (h : a.size ≤ 140737488351232) : ∃ k, lodestonelaw03_key.f a = some k ∧ k.size = 32 := by
  have hs : (a ++ (⟨#[48, 49, 50, 51, 52, 53, 54, 55, 56, 57, 97, 98, 99, 100, 101, 102, 48, 49, 50, 51, 52, 53, 54, 55, 56, 57, 97, 98, 99, 100, 101, 102]⟩ : ByteArray)).size = a.size + 32 := by rw [ByteArray.size_append]; rfl
  refine ⟨(a ++ (⟨#[48, 49, 50, 51, 52, 53, 54, 55, 56, 57, 97, 98, 99, 100, 101, 102, 48, 49, 50, 51, 52, 53, 54, 55, 56, 57, 97, 98, 99, 100, 101, 102]⟩ : ByteArray)).extract 0 32, ?_, ?_⟩
  · unfold lodestonelaw03_key.f
    rw [if_pos (by omega), if_pos (by decide), if_pos (by rw [hs]; omega)]
  · rw [ByteArray.size_extract, hs]; omega
theorem blocks_nonce (a : ByteArray) (h : a.size ≤ 140737488351232) : ∃ k, lodestonelaw03_nonce.f a = some k ∧ k.size = 12 := by
  have hs : (a ++ (⟨#[48, 49, 50, 51, 52, 53, 54, 55, 56, 57, 97, 98]⟩ : ByteArray)).size = a.size + 12 := by rw [ByteArray.size_append]; rfl
  refine ⟨(a ++ (⟨#[48, 49, 50, 51, 52, 53, 54, 55, 56, 57, 97, 98]⟩ : ByteArray)).extract 0 12, ?_, ?_⟩
  · unfold lodestonelaw03_nonce.f
    rw [if_pos (by omega), if_pos (by decide), if_pos (by rw [hs]; omega)]
  · rw [ByteArray.size_extract, hs]; omega
theorem ChachaBlocks : lodestonelaw03_ChachaBlocks.Pure := by
  intro a0 a1 a2 h0 h1 h2
  obtain ⟨k, hk, hks⟩ := blocks_key a0 h0
  obtain ⟨n, hn, hns⟩ := blocks_nonce a1 h1
  have hu : 0 ≤ a2 ∧ a2 < 4294967296 := by
    simp [Lit.wf] at h2
    have e1 : IntKind.u32.min = 0 := rfl
    have e2 : IntKind.u32.max = 4294967295 := rfl
    omega
  unfold lodestonelaw03_ChachaBlocks.f
  rw [blocks_awake, Option.bind_some, if_pos rfl, hk, Option.bind_some, hn, Option.bind_some, show chacha_Block.f k n a2 = some (blk k n a2) from if_pos ⟨hks, hns⟩, Option.bind_some, Option.bind_some, Option.bind_some, show lodestoneref03_Block.f k n a2 = some (blk k n a2) from if_pos ⟨hks, hns, hu.1, hu.2⟩, Option.bind_some]
  simp
end Go.Proofs.Ytfomeaejhljahaa.Pure
