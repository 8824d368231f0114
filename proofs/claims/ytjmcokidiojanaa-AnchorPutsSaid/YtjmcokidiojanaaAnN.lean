/- The document's anchors that may be: walked. -/
import Derived.Test.YtjmcokidiojanaaAnM
namespace Go.Proofs.Ytjmcokidiojanaa.An
open Go.RowKit Go.Proofs.YtjmcokidiojanaaW.PrintWords Go.Proofs.YtjmcokidiojanaaW.PrintLast Go.Proofs.YtjmcokidiojanaaW.PrintMore
attribute [local go_sem] max2_int min2_int max_two min_two max_three min_three max_four min_four   -- for this text's walks alone
set_option linter.unusedVariables false
set_option linter.unusedSimpArgs false
set_option maxHeartbeats 8000000 in
set_option maxRecDepth 100000 in
theorem ref_calls (g e : Int) (turn : Bool) (next : ByteArray) (pl : Int) (rs : ByteArray) (fr ma : Int) (ch : ByteArray) (w : World) :
    Calls Try.prog 27 #[.agg #[.int .u64 g, .int .u32 e, .bool turn, .string next, .int .i64 pl, .string rs, .int .i64 fr, .int .i64 ma, .string ch]] w fun e w' => e = .returned (.bool (mayB turn next pl rs fr ma ch)) ∧ Below w.heap.size w w' := by
  have hu27 := Try.underlying27
  have hu25 := Try.underlying25
  have HB := Aside0.mk (Below.refl w.heap.size w)
  go_enter Try.func27, Try.ntmps27
  go_wp2_with (first | ((with_reducible refine gate_dst (N := 1) rfl ?_); (try (refine gate_guard (by rfl) ?_; dsimp only)); refine box_event ?hg (N := 1) ?hd (cs := #[.int .u64 g, .int .u32 e, .bool turn, .string next, .int .i64 pl, .string rs, .int .i64 fr, .int .i64 ma, .string ch]) (t := 27) ?hr ?_; (case hd => rfl); (case hg => rfl); (case hr => first | (go_simp; done) | (go_simp; rfl)); intro gb101 hg w14 hbox hb; have n0_ := Aside0.mk (below_step HB.out hb); have BK101 := Aside0.mk (hbox); clear HB; have HB := n0_; clear n0_; clear hb hbox hg; have hcz15_2 : w14.cell? ⟨gb101, 2, none⟩ = some (.bool turn) := (blk_cell BK101.out 2).trans rfl; have hcz15_3 : w14.cell? ⟨gb101, 3, none⟩ = some (.string next) := (blk_cell BK101.out 3).trans rfl; have hcz15_4 : w14.cell? ⟨gb101, 4, none⟩ = some (.int .i64 pl) := (blk_cell BK101.out 4).trans rfl; have hcz15_5 : w14.cell? ⟨gb101, 5, none⟩ = some (.string rs) := (blk_cell BK101.out 5).trans rfl; have hcz15_6 : w14.cell? ⟨gb101, 6, none⟩ = some (.int .i64 fr) := (blk_cell BK101.out 6).trans rfl; have hcz15_7 : w14.cell? ⟨gb101, 7, none⟩ = some (.int .i64 ma) := (blk_cell BK101.out 7).trans rfl; have hcz15_8 : w14.cell? ⟨gb101, 8, none⟩ = some (.string ch) := (blk_cell BK101.out 8).trans rfl))
  all_goals go_ret
  all_goals refine ⟨congrArg (fun b => Ending.returned (Value.bool b)) (mayB_of ?_), HB.out⟩
  all_goals unfold mayP
  all_goals clear HB BK101
  all_goals try subst_vars
  all_goals simp [*]
  all_goals omega
end Go.Proofs.Ytjmcokidiojanaa.An
