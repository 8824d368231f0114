import Derived.Test.YtfomeaejhljahaaPChachaMayx1
import Derived.Test.YtfomeaejhljahaaChaP
namespace Go.Proofs.Ytfomeaejhljahaa.Pure
open Go.RowKit Go.Proofs.Ytfomeaejhljahaa.PChachaMay Go.Proofs.YtfomeaejhljahaaW.PrintWords Go.Proofs.YtfomeaejhljahaaW.PrintLast Go.Proofs.Ytfomeaejhljahaa.XB Go.Proofs.Ytfomeaejhljahaa.Cha
theorem may_awake : lodestonelaw03_awake.f = some true := by
  unfold lodestonelaw03_awake.f
  rw [show chacha_Block.f ⟨#[0, 1, 2, 3, 4, 5, 6, 7, 8, 9, 10, 11, 12, 13, 14, 15, 16, 17, 18, 19, 20, 21, 22, 23, 24, 25, 26, 27, 28, 29, 30, 31]⟩ ⟨#[0, 0, 0, 9, 0, 0, 0, 74, 0, 0, 0, 0]⟩ 1 = some (blk awK awN 1) from if_pos ⟨rfl, rfl⟩, Option.bind_some, awB]
  kernel_rfl
theorem ChachaMay : lodestonelaw03_ChachaMay.Pure := by
  intro a0 a1 a2 h0 h1 h2
  have g1 : 0 ≤ mn (a2.size : Int) 200 := by unfold mn; split <;> omega
  have g2 : mn (a2.size : Int) 200 ≤ (a2.size : Int) := by unfold mn; split <;> omega
  obtain ⟨x, hx⟩ : ∃ x, a2.extract 0 ((mn (a2.size : Int) 200) : Int).toNat = x := ⟨_, rfl⟩
  have hxs : (x.size : Int) = mn (a2.size : Int) 200 := by rw [← hx, ByteArray.size_extract]; omega
  have he : (⟨#[]⟩ : ByteArray).toList = ([] : List UInt8) := by kernel_rfl
  refine ⟨1, ?_⟩
  have key : ∀ b, (b = true ↔ (a0.size = 32 ∧ a1.size = 12)) → lodestonelaw03_ChachaMay.j0 1 a0 a1 a2 b = some true := by
    intro b hb
    have hm : chacha_May.f a0 a1 = some b := by
      unfold chacha_May.f
      by_cases c : (a0.size : Int) = 32
      · rw [if_pos c]
        congr 1
        rw [Bool.eq_iff_iff, hb, beq_iff_eq]
        omega
      · rw [if_neg c]
        congr 1
        rw [Bool.eq_iff_iff, hb]
        simp
        omega
    rw [lodestonelaw03_ChachaMay.j0, if_pos g1, if_pos g2, hx]
    by_cases c : a0.size = 32 ∧ a1.size = 12
    · rw [show chacha_Turn.f a0 a1 x = some (turned a0 a1 x) by unfold chacha_Turn.f; rw [if_pos c, if_pos (by have := h2; omega)], Option.bind_some, may_awake, Option.bind_some, if_pos rfl, hm, Option.bind_some, if_pos (by simp), if_pos (hb.mpr c), turned_size, if_pos hxs]
    · have hbf : b = false := by
        cases b
        · rfl
        · exact absurd (hb.mp rfl) c
      rw [show chacha_Turn.f a0 a1 x = some ⟨#[]⟩ by unfold chacha_Turn.f; rw [if_neg c], Option.bind_some, may_awake, Option.bind_some, if_pos rfl, hm, Option.bind_some, if_pos (by simp), hbf, if_neg (by simp), if_pos he, show chacha_Block.f a0 a1 1 = some ⟨#[]⟩ by unfold chacha_Block.f; rw [if_neg c], Option.bind_some, he]
      rfl
  unfold lodestonelaw03_ChachaMay.f
  by_cases c : (a0.size : Int) = 32
  · rw [if_pos c]
    exact key _ (by rw [beq_iff_eq]; omega)
  · rw [if_neg c]
    exact key _ (by simp; omega)
end Go.Proofs.Ytfomeaejhljahaa.Pure
