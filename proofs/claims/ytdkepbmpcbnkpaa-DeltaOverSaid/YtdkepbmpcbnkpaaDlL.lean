/- A range is what is kept; a change without a key. -/
import Derived.Test.YtdkepbmpcbnkpaaDlK
import Derived.Test.YtdkepbmpcbnkpaaDlE
namespace Go.Proofs.Ytdkepbmpcbnkpaa.Dl
open Go.RowKit Go.Proofs.YtdkepbmpcbnkpaaW.PrintWords Go.Proofs.YtdkepbmpcbnkpaaW.PrintLast Go.Proofs.YtdkepbmpcbnkpaaW.PrintMore Go.Proofs.Ytdkepbmpcbnkpaa.XB Go.Proofs.Ytdkepbmpcbnkpaa.PDeltaPlays
attribute [local go_sem] max2_int min2_int max_two min_two max_three min_three max_four min_four
set_option linter.unusedVariables false
set_option linter.unusedSimpArgs false
variable {w w' : World} {p : At} {rv : Value} {l : List S26}
/-- is this change in the range? -/
def keep (f t : ByteArray) (x : S26) : Bool := !(lt x f) && (t.toList.isEmpty || lt x t)
theorem keep_range (h : Rises l) (f t : ByteArray) : l.filter (keep f t) = rangeL l f t := by
  obtain ⟨b, hb⟩ : ∃ b, (if t.toList = [] then l.length else atN l t) = b := ⟨_, rfl⟩
  unfold rangeL
  rw [hb]
  have hbl : b ≤ l.length := by
    rw [← hb]
    split
    · exact Nat.le_refl _
    · exact atN_le l t
  have hal := atN_le l f
  have hin : ∀ x ∈ l.take b, (t.toList.isEmpty || lt x t) = true := by
    intro x hx
    rw [← hb] at hx
    by_cases ht : t.toList = []
    · rw [ht]
      rfl
    · rw [if_neg ht] at hx
      rw [(cut t h).1 x hx, Bool.or_true]
  have hout : ∀ x ∈ l.drop b, (t.toList.isEmpty || lt x t) = false := by
    intro x hx
    rw [← hb] at hx
    by_cases ht : t.toList = []
    · rw [if_pos ht, List.drop_length] at hx
      cases hx
    · rw [if_neg ht] at hx
      rw [(cut t h).2 x hx, Bool.or_false]
      cases e : t.toList with
      | nil => exact absurd e ht
      | cons _ _ => rfl
  have e0 : l.filter (keep f t) = (l.take (max (atN l f) b)).filter (keep f t) ++ (l.drop (max (atN l f) b)).filter (keep f t) := by
    rw [← List.filter_append, List.take_append_drop]
  have e1 : (l.drop (max (atN l f) b)).filter (keep f t) = [] := by
    rw [List.filter_eq_nil_iff]
    intro x hx
    have hx2 : x ∈ l.drop b := by
      have : l.drop (max (atN l f) b) = (l.drop b).drop (max (atN l f) b - b) := by rw [List.drop_drop]; congr 1; omega
      rw [this] at hx
      exact List.mem_of_mem_drop hx
    unfold keep
    rw [hout x hx2]
    simp
  have e2 : (l.take (max (atN l f) b)).filter (keep f t) = ((l.take (max (atN l f) b)).take (atN l f)).filter (keep f t) ++ ((l.take (max (atN l f) b)).drop (atN l f)).filter (keep f t) := by
    rw [← List.filter_append, List.take_append_drop]
  have e3 : ((l.take (max (atN l f) b)).take (atN l f)).filter (keep f t) = [] := by
    rw [List.filter_eq_nil_iff]
    intro x hx
    rw [List.take_take, Nat.min_eq_left (Nat.le_max_left _ _)] at hx
    unfold keep
    rw [(cut f h).1 x hx]
    simp
  have e4 : ((l.take (max (atN l f) b)).drop (atN l f)).filter (keep f t) = (l.take (max (atN l f) b)).drop (atN l f) := by
    rw [List.filter_eq_self]
    intro x hx
    have hf : lt x f = false := by
      refine (cut f h).2 x ?_
      rw [List.drop_take] at hx
      exact List.mem_of_mem_take hx
    have ht : (t.toList.isEmpty || lt x t) = true := by
      refine hin x ?_
      rcases Nat.le_total (atN l f) b with c | c
      · rw [Nat.max_eq_right c] at hx
        exact List.mem_of_mem_drop hx
      · rw [Nat.max_eq_left c, List.drop_of_length_le (by rw [List.length_take]; omega)] at hx
        cases hx
    unfold keep
    rw [hf, ht]
    rfl
  rw [e0, e1, e2, e3, e4, List.append_nil, List.nil_append]
theorem keep_step {f t : ByteArray} {i : Nat} (hi : i < l.length) : (l.take (i + 1)).filter (keep f t) = if keep f t (rd_T26 l (i : Int)) = true then (l.take i).filter (keep f t) ++ [rd_T26 l (i : Int)] else (l.take i).filter (keep f t) := by
  rw [rd_take hi, List.filter_append]
  split
  · rename_i c
    rw [List.filter_cons_of_pos c, List.filter_nil]
  · rename_i c
    rw [List.filter_cons_of_neg c, List.filter_nil, List.append_nil]
set_option maxHeartbeats 8000000 in
set_option maxRecDepth 100000 in
theorem put_empty (h : Ch w p rv l) (x : S26) (he : x.f0.toList = []) :
    Calls Try.prog 8 #[.pointer (some ⟨p.g, 0, none⟩), .agg #[.string x.f0, .string x.f1, .bool x.f2]] w fun e w' => e = .returned (.tuple #[]) ∧ Below w.heap.size w w' := by
  have b0 := Aside0.mk (below_alloc (Below.refl w.heap.size w) (.cells #[.string x.f0, .string x.f1, .bool x.f2] 26))
  have hn := heap_alloc_new w (.cells #[.string x.f0, .string x.f1, .bool x.f2] 26)
  have z0 : (w.alloc (.cells #[.string x.f0, .string x.f1, .bool x.f2] 26)).cell? ⟨w.heap.size, 0, none⟩ = some (.string x.f0) := blk_cell hn 0
  have s1 : (x.f0.toList == []) = true := by rw [he]; rfl
  have s0 : x.f0.toList.isEmpty = true := by rw [he]; rfl
  clear he h hn
  go_enter Try.func8, Try.ntmps8
  go_wp2
  (first | go_end0 | ((try simp only [Exit.inBlock, Exit.then]); refine bodyPost_ret (results_none rfl _ _ _) rfl ?_))
  exact ⟨rfl, b0.out⟩
end Go.Proofs.Ytdkepbmpcbnkpaa.Dl
