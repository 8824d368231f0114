/- Clone, Clear; what none is, walked. -/
import Derived.Test.YtdkepbmpcbnkpaaDlF
namespace Go.Proofs.Ytdkepbmpcbnkpaa.Dl
open Go.RowKit Go.Proofs.YtdkepbmpcbnkpaaW.PrintWords Go.Proofs.YtdkepbmpcbnkpaaW.PrintLast Go.Proofs.YtdkepbmpcbnkpaaW.PrintMore Go.Proofs.Ytdkepbmpcbnkpaa.XB Go.Proofs.Ytdkepbmpcbnkpaa.PDeltaPlays
attribute [local go_sem] max2_int min2_int max_two min_two max_three min_three max_four min_four
set_option linter.unusedVariables false
set_option linter.unusedSimpArgs false
variable {w w' : World} {p : At} {rv : Value} {l : List S26}
set_option maxHeartbeats 8000000 in
set_option maxRecDepth 100000 in
theorem copy_calls (h : Ch w p rv l) (hr : Rises l) :
    Calls Try.prog 16 #[.pointer (some ⟨p.g, 0, none⟩)] w fun e w' => ∃ q rv', e = .returned (.pointer (some ⟨q, 0, none⟩)) ∧ Ch w' ⟨q, w.heap.size⟩ rv' l ∧ Below w.heap.size w w' := by
  have HH := Aside0.mk h
  have HR := Aside0.mk hr
  clear h hr
  go_enter Try.func16, Try.ntmps16
  go_wp2_with (first | (go_at_call 14; fail))
  refine (all_calls HH.out HR.out).mono ?_
  rintro e w6 ⟨v6, rfl, hR6, hb6⟩
  obtain ⟨A6, c6, rfl, _, _⟩ := Kd.R_reads hR6
  have HT := Aside0.mk (show Ch (w6.alloc (.cells #[.slice A6 l.length c6] 50)) ⟨w6.heap.size, w.heap.size⟩ (.slice A6 l.length c6) l from
    ⟨heap_alloc_new w6 _, Kd.R_below (Kd.R_mono (Kd.R_bound hR6) (fun k hk => Nat.ne_of_lt hk.2.2.1)) (below_alloc (Below.refl _ _) _), hb6.size, HH.out.small⟩)
  have HB := Aside0.mk (below_alloc hb6 (.cells #[.slice A6 l.length c6] 50))
  clear hR6 hb6
  go_wp2
  go_ret
  exact ⟨_, _, rfl, HT.out, HB.out⟩
set_option maxHeartbeats 8000000 in
set_option maxRecDepth 100000 in
theorem copy_nil (w : World) :
    Calls Try.prog 16 #[.pointer none] w fun e w' => ∃ q rv', e = .returned (.pointer (some ⟨q, 0, none⟩)) ∧ Ch w' ⟨q, w.heap.size⟩ rv' [] ∧ Below w.heap.size w w' := by
  go_enter Try.func16, Try.ntmps16
  go_wp2_with (first | (go_at_call 14; fail))
  refine (all_nil w).mono ?_
  rintro e w6 ⟨rfl, hb6⟩
  have HT := Aside0.mk (show Ch (w6.alloc (.cells #[.slice none 0 0] 50)) ⟨w6.heap.size, w.heap.size⟩ (.slice none 0 0) [] from
    ⟨heap_alloc_new w6 _, Kd.R_nil _ _ _ _ _, hb6.size, by decide⟩)
  have HB := Aside0.mk (below_alloc hb6 (.cells #[.slice none 0 0] 50))
  clear hb6
  go_wp2
  go_ret
  exact ⟨_, _, rfl, HT.out, HB.out⟩
set_option maxHeartbeats 8000000 in
set_option maxRecDepth 100000 in
theorem clear_calls (h : Ch w p rv l) :
    Calls Try.prog 17 #[.pointer (some ⟨p.g, 0, none⟩)] w fun e w' => e = .returned (.tuple #[]) ∧ Ch w' p (.slice none 0 0) [] ∧ Below p.B w w' ∧ Far p.g none w w' := by
  have cg : w.cell? ⟨p.g, 0, none⟩ = some rv := blk_cell h.cells 0
  have fg : w.frozen? ⟨p.g, 0, none⟩ = false := blk_frozen h.cells 0
  have HT := Aside0.mk (show Ch (w.setCell ⟨p.g, 0, none⟩ (.slice none 0 0)) p (.slice none 0 0) [] from ⟨blk_set h.cells 0 _, Kd.R_nil _ _ _ _ _, h.bg, by decide⟩)
  have HB := Aside0.mk (show Below p.B w (w.setCell ⟨p.g, 0, none⟩ (.slice none 0 0)) from (Below.refl _ _).setCell (p := ⟨p.g, 0, none⟩) h.bg _)
  clear h
  go_enter Try.func17, Try.ntmps17
  go_wp2
  (first | go_end0 | ((try simp only [Exit.inBlock, Exit.then]); refine bodyPost_ret (results_none rfl _ _ _) rfl ?_))
  exact ⟨rfl, HT.out, HB.out, fun q hq h1 _ => Below.heap_setCell _ _ _ _ h1⟩
set_option maxHeartbeats 8000000 in
set_option maxRecDepth 100000 in
theorem clear_nil (w : World) : Calls Try.prog 17 #[.pointer none] w fun e w' => e = .returned (.tuple #[]) ∧ Below w.heap.size w w' := by
  go_enter Try.func17, Try.ntmps17
  go_wp2
  (first | go_end0 | ((try simp only [Exit.inBlock, Exit.then]); refine bodyPost_ret (results_none rfl _ _ _) rfl ?_))
  exact ⟨rfl, Below.refl _ _⟩
set_option maxHeartbeats 8000000 in
set_option maxRecDepth 100000 in
theorem put_nil (x : S26) (w : World) : Calls Try.prog 8 #[.pointer none, .agg #[.string x.f0, .string x.f1, .bool x.f2]] w fun e w' => e = .returned (.tuple #[]) ∧ Below w.heap.size w w' := by
  have b0 := Aside0.mk (below_alloc (Below.refl w.heap.size w) (.cells #[.string x.f0, .string x.f1, .bool x.f2] 26))
  go_enter Try.func8, Try.ntmps8
  go_wp2
  (first | go_end0 | ((try simp only [Exit.inBlock, Exit.then]); refine bodyPost_ret (results_none rfl _ _ _) rfl ?_))
  exact ⟨rfl, b0.out⟩
set_option maxHeartbeats 8000000 in
set_option maxRecDepth 100000 in
theorem get_nil (key : ByteArray) (w : World) : Calls Try.prog 10 #[.pointer none, .string key] w fun e w' => e = .returned (.tuple #[.agg #[.string ⟨#[]⟩, .string ⟨#[]⟩, .bool false], .bool false]) ∧ Below w.heap.size w w' := by
  have b0 := Aside0.mk (below_alloc (Below.refl w.heap.size w) (.cells #[.string ⟨#[]⟩, .string ⟨#[]⟩, .bool false] 26))
  have hbx := heap_alloc_new w (.cells #[.string ⟨#[]⟩, .string ⟨#[]⟩, .bool false] 26)
  have HBX := Aside0.mk hbx
  have x0 : (w.alloc (.cells #[.string ⟨#[]⟩, .string ⟨#[]⟩, .bool false] 26)).cell? ⟨w.heap.size, 0, none⟩ = some (.string ⟨#[]⟩) := blk_cell hbx 0
  have x1 : (w.alloc (.cells #[.string ⟨#[]⟩, .string ⟨#[]⟩, .bool false] 26)).cell? ⟨w.heap.size, 1, none⟩ = some (.string ⟨#[]⟩) := blk_cell hbx 1
  have x2 : (w.alloc (.cells #[.string ⟨#[]⟩, .string ⟨#[]⟩, .bool false] 26)).cell? ⟨w.heap.size, 2, none⟩ = some (.bool false) := blk_cell hbx 2
  have f0 : (w.alloc (.cells #[.string ⟨#[]⟩, .string ⟨#[]⟩, .bool false] 26)).frozen? ⟨w.heap.size, 0, none⟩ = false := blk_frozen hbx 0
  have f1 : (w.alloc (.cells #[.string ⟨#[]⟩, .string ⟨#[]⟩, .bool false] 26)).frozen? ⟨w.heap.size, 1, none⟩ = false := blk_frozen hbx 1
  have f2 : (w.alloc (.cells #[.string ⟨#[]⟩, .string ⟨#[]⟩, .bool false] 26)).frozen? ⟨w.heap.size, 2, none⟩ = false := blk_frozen hbx 2
  clear hbx
  go_enter Try.func10, Try.ntmps10
  go_wp2
  (try simp only [Exit.inBlock, Exit.then])
  refine bodyPost_ret (results_list (rs := [.cell 4 26, .tmp 5]) rfl (by simp) (.cell w.heap.size 26 _ (0, 0) _ rfl HBX.out Try.underlying26 rfl (size26.trans rfl) (.tmp .nil))) rfl ?_
  exact ⟨rfl, b0.out⟩
theorem len_zero (h : Ch w p rv []) : Calls Try.prog 11 #[.pointer (some ⟨p.g, 0, none⟩)] w fun e w' => e = .returned (.int .i64 0) ∧ Below w.heap.size w w' := len_calls h
end Go.Proofs.Ytdkepbmpcbnkpaa.Dl
