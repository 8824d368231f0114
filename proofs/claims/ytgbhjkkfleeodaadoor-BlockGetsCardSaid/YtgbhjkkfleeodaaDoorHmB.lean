import Derived.Test.YtgbhjkkfleeodaaDoorHmA
import Derived.Test.YtgbhjkkfleeodaaDoorLib
namespace Go.Proofs.YtgbhjkkfleeodaaDoor.Hm
open Go.RowKit Go.Proofs.YtgbhjkkfleeodaaDoorW.PrintWords Go.Proofs.YtgbhjkkfleeodaaDoorW.PrintLast Go.Proofs.YtgbhjkkfleeodaaDoorW.PrintMore Go.Proofs.YtgbhjkkfleeodaaDoor.XA Go.Proofs.YtgbhjkkfleeodaaDoor.XB Go.Proofs.YtgbhjkkfleeodaaDoor.XL Go.Proofs.YtgbhjkkfleeodaaDoor.Sha
set_option linter.unusedVariables false
set_option linter.unusedSimpArgs false
theorem join2 (a b : ByteArray) : (⟨(Lib.join ([a, b].map (·.data.toList)) (⟨#[]⟩ : ByteArray).data.toList).toArray⟩ : ByteArray) = a ++ b := by
  apply eq_of_data
  rw [append_data]
  simp [Lib.join, List.intercalate]
theorem join_calls (a b : ByteArray) (bk c : Nat) (hc : 2 ≤ c) (w : World) (h0 : w.cell? ⟨bk, 0, none⟩ = some (.string a)) (h1 : w.cell? ⟨bk, 1, none⟩ = some (.string b)) (hbk : bk < w.heap.size) (hl : a.size + b.size ≤ 140737488351232) :
    Calls Tryd.prog 87 #[.slice (some ⟨bk, 0, none⟩) 2 c, .string ⟨#[]⟩] w fun e w' => e = .returned (.string (a ++ b)) ∧ Below w.heap.size w w' := by
  have h := Tryd.strings_Join bk 0 c [a, b] ⟨#[]⟩ w (fun j x hx => by
    rcases j with _ | _ | j
    · simp at hx; subst hx; simpa using h0
    · simp at hx; subst hx; simpa using h1
    · simp at hx) hbk (by simp) (by simpa using hc) (by
      have e := congrArg (fun z : ByteArray => z.size) (join2 a b)
      have e2 : (a ++ b).size = a.size + b.size := ByteArray.size_append
      rw [e2] at e
      have e3 : (⟨(Lib.join ([a, b].map (·.data.toList)) (⟨#[]⟩ : ByteArray).data.toList).toArray⟩ : ByteArray).size = (Lib.join ([a, b].map (·.data.toList)) (⟨#[]⟩ : ByteArray).data.toList).length := by
        rw [← data_len]
      omega)
  rw [join2] at h
  exact h
theorem sum2_calls (a b : ByteArray) (bk c : Nat) (hc : 2 ≤ c) (w : World) (h0 : w.cell? ⟨bk, 0, none⟩ = some (.string a)) (h1 : w.cell? ⟨bk, 1, none⟩ = some (.string b)) (hbk : bk < w.heap.size) (hl : a.size + b.size ≤ 140737488351232) (hG : SL w) :
    Calls Tryd.prog 76 #[.slice (some ⟨bk, 0, none⟩) 2 c] w fun e w' => e = .returned (.string (dig (a ++ b))) ∧ Below w.heap.size w w' := by
  have CJ := Aside0.mk (join_calls a b bk c hc w h0 h1 hbk hl)
  have HG := Aside0.mk hG
  have HS := Aside0.mk (show (a ++ b).size ≤ 140737488351232 by rw [ByteArray.size_append]; exact hl)
  clear h0 h1 hl hG hc hbk
  go_enter Tryd.func76, Tryd.ntmps76
  go_wp2_with (first
    | (go_at_call 87; with_reducible refine CJ.out.mono ?_; rintro e w1 ⟨rfl, hb⟩; have HB := Aside0.mk hb; clear hb)
    | (go_at_call 86; with_reducible refine (sum_dig (a ++ b) HS.out _ (SL.below HG.out HB.out)).mono ?_; rintro e w2 ⟨rfl, hb⟩; have HC := Aside0.mk (below_step HB.out hb); clear hb))
  go_ret
  exact ⟨rfl, HC.out⟩
def tag (key s : ByteArray) : ByteArray := dig (pd key 92 ++ dig (pd key 54 ++ s))
theorem tag_size (key s : ByteArray) : (tag key s).size = 32 := dig_size _
set_option maxHeartbeats 4000000 in
theorem tag_calls (key s : ByteArray) (hk : key.size ≤ 140737488351232) (hs : s.size + 64 ≤ 140737488351232) (w : World) (hG : SL w) :
    Calls Tryd.prog 62 #[.string key, .string s] w fun e w' => e = .returned (.string (tag key s)) ∧ Below w.heap.size w w' := by
  have HG := Aside0.mk hG
  have HK := Aside0.mk hk
  have HS := Aside0.mk hs
  have HB := Aside0.mk (Below.refl w.heap.size w)
  obtain ⟨p, hp⟩ : ∃ p, pd key 54 = p := ⟨_, rfl⟩
  obtain ⟨q, hq⟩ : ∃ q, pd key 92 = q := ⟨_, rfl⟩
  obtain ⟨d, hd⟩ : ∃ d, dig (p ++ s) = d := ⟨_, rfl⟩
  have HP := Aside0.mk hp
  have HQ := Aside0.mk hq
  have HD := Aside0.mk hd
  have HPS := Aside0.mk (show p.size + s.size ≤ 140737488351232 by rw [← hp, pd_size]; omega)
  have HQS := Aside0.mk (show q.size + d.size ≤ 140737488351232 by rw [← hq, ← hd, pd_size, dig_size]; omega)
  have HT := Aside0.mk (show tag key s = dig (q ++ d) by rw [tag, hp, hq, hd])
  clear hG hk hs hp hq hd
  go_enter Tryd.func62, Tryd.ntmps62
  go_wp2_with (first
    | (go_at_call 77; with_reducible refine (padded_calls key 92 HK.out _ (SL.below HG.out HB.out)).mono ?_; rintro e w1 ⟨rfl, hb⟩; rw [HQ.out]; have n0 := Aside0.mk (below_step HB.out hb); clear HB hb; have HB := n0; clear n0)
    | (go_at_call 77; with_reducible refine (padded_calls key 54 HK.out _ (SL.below HG.out HB.out)).mono ?_; rintro e w2 ⟨rfl, hb⟩; rw [HP.out]; have n0 := Aside0.mk (below_step HB.out hb); clear HB hb; have HB := n0; clear n0)
    | (go_at_call 76; with_reducible refine (sum2_calls p s _ 2 ?h2 _ ?ha ?hb ?hc HPS.out ?hg).mono ?_; (case ha => exact (blk_cell (blk_new _ _) 0).trans rfl); (case hb => exact (blk_cell (blk_new _ _) 1).trans rfl); (case h2 => decide); (case hc => simp); (case hg => exact SL.below HG.out (below_alloc HB.out _)); rintro e w3 ⟨rfl, hb⟩; rw [HD.out]; have n0 := Aside0.mk (below_step (below_alloc HB.out _) hb); clear HB hb; have HB := n0; clear n0)
    | (go_at_call 76; with_reducible refine (sum2_calls q d _ 2 ?h2 _ ?ha ?hb ?hc HQS.out ?hg).mono ?_; (case ha => exact (blk_cell (blk_new _ _) 0).trans rfl); (case hb => exact (blk_cell (blk_new _ _) 1).trans rfl); (case h2 => decide); (case hc => simp); (case hg => exact SL.below HG.out (below_alloc HB.out _)); rintro e w4 ⟨rfl, hb⟩; have n0 := Aside0.mk (below_step (below_alloc HB.out _) hb); clear HB hb; have HB := n0; clear n0))
  go_ret
  exact ⟨by rw [HT.out]; rfl, HB.out⟩
end Go.Proofs.YtgbhjkkfleeodaaDoor.Hm
