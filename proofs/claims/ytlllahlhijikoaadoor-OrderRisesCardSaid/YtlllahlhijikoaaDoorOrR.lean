/- OrderRises: the law's own function, walked. -/
import Derived.Test.YtlllahlhijikoaaDoorPureOrderRises
import Derived.Test.YtlllahlhijikoaaDoorOrG
import Derived.Test.YtlllahlhijikoaaDoorXI
namespace Go.Proofs.YtlllahlhijikoaaDoor.OrR
open Go.RowKit Go.Proofs.YtlllahlhijikoaaDoor.POrderRises Go.Proofs.YtlllahlhijikoaaDoorW.PrintWords Go.Proofs.YtlllahlhijikoaaDoorW.PrintLast Go.Proofs.YtlllahlhijikoaaDoorW.PrintMore Go.Proofs.YtlllahlhijikoaaDoor.XB Go.Proofs.YtlllahlhijikoaaDoor.XL Go.Proofs.YtlllahlhijikoaaDoor.Sha Go.Proofs.YtlllahlhijikoaaDoor.PureR
attribute [local go_sem] max2_int min2_int max_two min_two max_three min_three max_four min_four   -- for this text's walks alone
set_option linter.unusedVariables false
set_option linter.unusedSimpArgs false
theorem u64_of {x : Int} (h : (Lit.int .u64 x).wf = true) : 0 ≤ x ∧ x < 18446744073709551616 := by
  have h2 : IntKind.u64.min ≤ x ∧ x ≤ IntKind.u64.max := by simpa [Lit.wf] using h
  have h3 : (0 : Int) ≤ x ∧ x ≤ 18446744073709551615 := h2
  omega
set_option maxHeartbeats 8000000 in
set_option maxRecDepth 100000 in
theorem law_calls (a b : Int) (s0 s1 : ByteArray) (ha : 0 ≤ a ∧ a < 18446744073709551616) (hb : 0 ≤ b ∧ b < 18446744073709551616) (w : World) (hG : SL w) :
    Calls Tryd.prog 5 #[.int .u64 a, .int .u64 b, .agg #[.string s0, .string s1]] w fun e w' => e = .returned (.bool true) ∧ Below w.heap.size w w' := by
  obtain ⟨m1, hm1⟩ : ∃ m : Int, (if 100 < (s0.size : Int) then 100 else (s0.size : Int)) = m := ⟨_, rfl⟩
  obtain ⟨m2, hm2⟩ : ∃ m : Int, (if 100 < (s1.size : Int) then 100 else (s1.size : Int)) = m := ⟨_, rfl⟩
  have g1 : 0 ≤ m1 ∧ m1 ≤ (s0.size : Int) ∧ m1 ≤ 100 := by rw [← hm1]; split <;> omega
  have g2 : 0 ≤ m2 ∧ m2 ≤ (s1.size : Int) ∧ m2 ≤ 100 := by rw [← hm2]; split <;> omega
  obtain ⟨x, hx⟩ : ∃ x, s0.extract 0 m1.toNat = x := ⟨_, rfl⟩
  obtain ⟨y, hy⟩ : ∃ y, s1.extract 0 m2.toNat = y := ⟨_, rfl⟩
  have hxs : x.size ≤ 100 := by rw [← hx, ByteArray.size_extract]; omega
  have hys : y.size ≤ 100 := by rw [← hy, ByteArray.size_extract]; omega
  have hsa : ∀ W : World, (Instr.slice 9 (.string s0) none (some (.int .i64 m1)) none).run Tryd.prog W = .ok (.string x) W := fun W => by
    have h := run_slice_string_to_if (P := Tryd.prog) (w := W) 9 s0 .i64 m1 Tryd.underlying9
    rw [h, if_pos ⟨g1.1, g1.2.1⟩, hx]
  have hsb : ∀ W : World, (Instr.slice 9 (.string s1) none (some (.int .i64 m2)) none).run Tryd.prog W = .ok (.string y) W := fun W => by
    have h := run_slice_string_to_if (P := Tryd.prog) (w := W) 9 s1 .i64 m2 Tryd.underlying9
    rw [h, if_pos ⟨g2.1, g2.2.1⟩, hy]
  obtain ⟨ia, hia⟩ : ∃ i, wrap64 a = i := ⟨_, rfl⟩
  obtain ⟨ib, hib⟩ : ∃ i, wrap64 b = i := ⟨_, rfl⟩
  have ra : -9223372036854775808 ≤ ia ∧ ia < 9223372036854775808 := by rw [← hia]; unfold wrap64; omega
  have rb : -9223372036854775808 ≤ ib ∧ ib < 9223372036854775808 := by rw [← hib]; unfold wrap64; omega
  have FA := Aside0.mk (num_part a ha.1 ha.2)
  have FB := Aside0.mk (num_part b hb.1 hb.2)
  have GA := Aside0.mk (int_part ia ra.1 ra.2)
  have GB := Aside0.mk (int_part ib rb.1 rb.2)
  have TX := Aside0.mk (text_part x (by omega))
  have TY := Aside0.mk (text_part y (by omega))
  have AW := Aside0.mk (show lodestonelaw05_awake.f = some true by decide +kernel)
  obtain ⟨p1, hp1⟩ : ∃ p, decide (a < b) = p := ⟨_, rfl⟩
  obtain ⟨p2, hp2⟩ : ∃ p, decide (ia < ib) = p := ⟨_, rfl⟩
  obtain ⟨p3, hp3⟩ : ∃ p, Op.bytesLess x.toList y.toList = p := ⟨_, rfl⟩
  have e1 : Op.bytesLess (numP a).toList (numP b).toList = p1 := by rw [num_less a b ha hb, hp1]
  have e2 : Op.bytesLess (intP ia).toList (intP ib).toList = p2 := by rw [int_less ia ib ra rb, hp2]
  have e3 : Op.bytesLess (txtP x).toList (txtP y).toList = p3 := by rw [text_less, hp3]
  have HBN := Aside0.mk (fun h : a ≠ b => begins_not (numP a) (numP b) (fun h2 => h (num_prefix a b ha hb h2)))
  have HBT := Aside0.mk (fun h : x ≠ y => begins_not (txtP x) (txtP y) (fun h2 => h (text_prefix x y h2)))
  have HG := Aside0.mk hG
  have HB := Aside0.mk (Below.refl w.heap.size w)
  have hz1 : a % 18446744073709551616 = a := by omega
  clear hG hx hy g1 g2 hxs hys ra rb ha hb
  obtain ⟨q1, hq1⟩ : ∃ q, (x.toList == y.toList) = q := ⟨_, rfl⟩
  obtain ⟨q2, hq2⟩ : ∃ q, (a == b) = q := ⟨_, rfl⟩
  have BT := Aside0.mk (fun h : q1 = false => HBT.out (fun e => by rw [e] at hq1; rw [← hq1] at h; simp at h))
  have BN := Aside0.mk (fun h : q2 = false => HBN.out (fun e => by rw [e] at hq2; rw [← hq2] at h; simp at h))
  clear HBN HBT
  cases q1
  all_goals cases q2
  all_goals go_enter Tryd.func5, Tryd.ntmps5
  all_goals go_wp2_with (first | ((with_reducible refine gate_dst (N := 5) rfl ?_); refine box_event ?hg (N := 5) ?hd (cs := #[.string s0, .string s1]) (t := 36) ?hr ?_; (case hd => rfl); (case hg => rfl); (case hr => first | (go_simp; done) | (go_simp; rfl)); intro gb101 hg w14 hbox hb; have n0_ := Aside0.mk (below_step HB.out hb); clear HB; have HB := n0_; clear n0_; have hcz_0 : w14.cell? ⟨gb101, 0, none⟩ = some (.string s0) := (blk_cell hbox 0).trans rfl; have hcz_1 : w14.cell? ⟨gb101, 1, none⟩ = some (.string s1) := (blk_cell hbox 1).trans rfl; clear hb hbox hg))
  all_goals go_quiet (fail)
  all_goals have n_ := Aside0.mk (pw_below_drewN HB.out nq)
  all_goals clear HB hcz_0 hcz_1 hsa hsb hm1 hm2
  all_goals have HB := n_
  all_goals clear n_
  all_goals go_wp2_with (first | (go_at_call 13; ((with_reducible refine (order_Num.calls a (numP a) _ FA.out).mono ?_)); rintro e w9 ⟨rfl, hb⟩; have n_ := Aside0.mk (below_step HB.out hb); clear HB hb; have HB := n_; clear n_) | (go_at_call 13; ((with_reducible refine (order_Num.calls b (numP b) _ FB.out).mono ?_)); rintro e w9 ⟨rfl, hb⟩; have n_ := Aside0.mk (below_step HB.out hb); clear HB hb; have HB := n_; clear n_) | (go_at_call 15; ((with_reducible refine (order_Int.calls ia (intP ia) _ GA.out).mono ?_)); rintro e w9 ⟨rfl, hb⟩; have n_ := Aside0.mk (below_step HB.out hb); clear HB hb; have HB := n_; clear n_) | (go_at_call 15; ((with_reducible refine (order_Int.calls ib (intP ib) _ GB.out).mono ?_)); rintro e w9 ⟨rfl, hb⟩; have n_ := Aside0.mk (below_step HB.out hb); clear HB hb; have HB := n_; clear n_) | (go_at_call 17; ((with_reducible refine (order_Text.calls x (txtP x) _ (SL.below HG.out HB.out) TX.out).mono ?_)); rintro e w9 ⟨rfl, hb⟩; have n_ := Aside0.mk (below_step HB.out hb); clear HB hb; have HB := n_; clear n_) | (go_at_call 17; ((with_reducible refine (order_Text.calls y (txtP y) _ (SL.below HG.out HB.out) TY.out).mono ?_)); rintro e w9 ⟨rfl, hb⟩; have n_ := Aside0.mk (below_step HB.out hb); clear HB hb; have HB := n_; clear n_) | (go_at_call 6; ((with_reducible refine (lodestonelaw05_awake.calls true _ AW.out).mono ?_)); rintro e w9 ⟨rfl, hb⟩; have n_ := Aside0.mk (below_step HB.out hb); clear HB hb; have HB := n_; clear n_) | (go_at_call 19; ((with_reducible refine (lodestonelaw05_begins.calls (txtP x) (txtP y) false _ (BT.out (by first | rfl | trivial))).mono ?_)); rintro e w9 ⟨rfl, ⟨nd, rfl⟩⟩; have n_ := Aside0.mk (pw_below_drewN HB.out nd); clear HB; have HB := n_; clear n_) | (go_at_call 19; ((with_reducible refine (lodestonelaw05_begins.calls (numP a) (numP b) false _ (BN.out (by first | rfl | trivial))).mono ?_)); rintro e w9 ⟨rfl, ⟨nd, rfl⟩⟩; have n_ := Aside0.mk (pw_below_drewN HB.out nd); clear HB; have HB := n_; clear n_))
  all_goals go_ret
  all_goals exact ⟨rfl, HB.out⟩
end Go.Proofs.YtlllahlhijikoaaDoor.OrR
