/- A node's keys: whether they rise; a node that may be: walked. -/
import Derived.Test.YtcdnmpajobhdcaaNdA
import Derived.Test.YtcdnmpajobhdcaaXB
import Derived.Sort.Walk0
import Derived.Lib.LazyBuf
namespace Go.Proofs.Ytcdnmpajobhdcaa.Nd
open Go.RowKit Go.Proofs.YtcdnmpajobhdcaaW.PrintWords Go.Proofs.YtcdnmpajobhdcaaW.PrintLast Go.Proofs.YtcdnmpajobhdcaaW.PrintMore
attribute [local go_sem] max2_int min2_int max_two min_two max_three min_three max_four min_four   -- for this text's walks alone
set_option linter.unusedVariables false
set_option linter.unusedSimpArgs false
set_option maxHeartbeats 8000000 in
set_option maxRecDepth 100000 in
theorem st_clone (A : Option Addr) (n c : Nat) (xs : List (ByteArray)) (w : World) (hr : Kd.C Kd.string w A n xs) (hl : n * 16 ≤ 140737488355328) :
    Calls Try.prog 45 #[.slice A n c] w fun e w' => ∃ v, e = .returned v ∧ Kd.R Kd.string 9 w' w.heap.size (fun _ => True) v xs ∧ Below w.heap.size w w' := by
  have hn := hr.1
  have HR := Aside0.mk hr
  have HL := Aside0.mk hl
  have q_ := fun (W : World) => Lib.run_eql_slice_nil (P := Try.prog) W 51 9 A n c 0 0 Try.underlying51
  cases A with
  | none =>
    have h0 : n = 0 := by
      rcases Nat.eq_zero_or_pos n with h | h
      · exact h
      · obtain ⟨ad, e, _⟩ := HR.out.2.2 h
        cases e
    have hx : xs = [] := List.eq_nil_of_length_eq_zero (by omega)
    subst hx
    subst h0
    have q1_ : ∀ W : World, (binOp .eql 51 (.slice none 0 c) (.slice none 0 0)).run Try.prog W = .ok (.bool true) W := fun W => q_ W
    clear hr hl hn HR HL q_
    go_enter Try.func45, Try.ntmps45
    go_wp2
    go_ret
    exact ⟨_, rfl, Kd.R_nil _ _ _ _ _, Below.refl _ _⟩
  | some ad =>
    have HN := Aside0.mk hn
    clear hr hl hn
    go_enter Try.func45, Try.ntmps45
    go_wp2_with (at_builtin; refine Kd.R_append_rows (w0 := w) Kd.string w.heap.size rfl _ _ 51 9 (.string ⟨#[]⟩) 16 rfl Try.underlying51 ?qi ?q1 ?q2 ?q3 (.slice (some ⟨w.heap.size, 0, none⟩) 0 0) [] xs (some ad) n c (fun _ => True) (fun _ => False) rfl rfl ?q4 (Kd.C_below HR.out (below_alloc (Below.refl _ _) _)) ?q5 ?q6 ?q7 (below_alloc (Below.refl _ _) _) ?q8 ?q9 ?_)
    case qi => kernel_rfl
    case q1 => rfl
    case q2 => decide
    case q3 => decide
    case q4 => exact ⟨fun _ _ => trivial, [], World.ownsRow_made w #[] 0 (Nat.le_refl _) (Nat.zero_le _) rfl, Reps.none _ _⟩
    case q5 => exact fun _ _ h => h
    case q6 => exact fun _ h => h.elim
    case q7 => exact fun _ _ => trivial
    case q8 => simp
    case q9 => have := HL.out; simpa using this
    intro v1 w1 hR hB hG hO
    have HB := Aside0.mk hB
    have HR1 := Aside0.mk hR
    clear hR hB hG hO
    go_wp2
    go_ret
    exact ⟨v1, rfl, HR1.out, HB.out⟩

set_option maxHeartbeats 8000000 in
set_option maxRecDepth 100000 in
theorem nan_calls (x : ByteArray) (w : World) : Calls Try.prog 52 #[.string x] w fun e w' => e = .returned (.bool false) ∧ w' = w := by
  have h : (x.toList != x.toList) = false := by simp
  go_enter Try.func52, Try.ntmps52
  go_wp2
  go_ret
  exact ⟨rfl, rfl⟩
set_option maxHeartbeats 8000000 in
set_option maxRecDepth 100000 in
theorem less_calls (x y : ByteArray) (w : World) : Calls Try.prog 51 #[.string x, .string y] w fun e w' => e = .returned (.bool (Op.bytesLess x.toList y.toList)) ∧ w' = w := by
  go_enter Try.func51, Try.ntmps51
  go_wp2_with (go_at_call 52; refine (nan_calls _ _).mono ?_; rintro e w' ⟨rfl, rfl⟩)
  go_ret
  exact ⟨rfl, rfl⟩
/-- texts in order: none is below the one ahead -/
def sortedB (n : Nat) (f0 : Nat → ByteArray) : Bool := (List.range (n - 1)).all fun i => !(Op.bytesLess (f0 (i + 1)).toList (f0 i).toList)
theorem sorted_true (n : Nat) (f0 : Nat → ByteArray) (h : ∀ i, i + 1 < n → Op.bytesLess (f0 (i + 1)).toList (f0 i).toList = false) : sortedB n f0 = true := by
  rw [sortedB, List.all_eq_true]
  intro i hi
  rw [List.mem_range] at hi
  rw [h i (by omega)]; rfl
theorem sorted_false (n : Nat) (f0 : Nat → ByteArray) (i : Nat) (hi : i + 1 < n) (h : Op.bytesLess (f0 (i + 1)).toList (f0 i).toList = true) : sortedB n f0 = false := by
  rw [sortedB, List.all_eq_false]
  exact ⟨i, List.mem_range.mpr (by omega), by rw [h]; decide⟩
set_option maxHeartbeats 8000000 in
set_option maxRecDepth 100000 in
theorem sorted_calls (A : Option Addr) (n c : Nat) (f0 : Nat → ByteArray) (w : World) (hr : lgRow w A n f0) :
    Calls Try.prog 43 #[.slice A n c] w fun e w' => e = .returned (.bool (sortedB n f0)) ∧ Below w.heap.size w w' := by
  have HR := Aside0.mk hr
  have HN := Aside0.mk hr.1
  have HB := Aside0.mk (Below.refl w.heap.size w)
  obtain ⟨m, hm⟩ : ∃ m : Int, wrap64 ((n : Int) - 1) = m := ⟨_, rfl⟩
  have HM := Aside0.mk (show m = (n : Int) - 1 by rw [← hm]; have := hr.1; unfold wrap64; omega)
  clear hr
  go_enter Try.func43, Try.ntmps43
  go_wp2
  simp only [hm]
  clear hm
  go_loopw [3] (fun i w' => ∃ j : Int, -1 ≤ j ∧ j < (n : Int) ∧ i = .int .i64 j ∧ (∀ q : Nat, j ≤ (q : Int) → q + 1 < n → Op.bytesLess (f0 (q + 1)).toList (f0 q).toList = false) ∧ Below w.heap.size w w') (fun i _ => (intOf i + 1).toNat)
  case atStart =>
    refine ⟨m, ?_, ?_, rfl, ?_, HB.out⟩
    · have := HM.out; omega
    · have := HM.out; omega
    · intro q h1 h2; have := HM.out; omega
  case round =>
    clear HB
    obtain ⟨j, hj0, hj, rfl, hl, hB⟩ := hrel
    have HL := Aside0.mk hl
    have HB := Aside0.mk hB
    clear hl hB
    by_cases hp : 0 < j
    · obtain ⟨q, hq⟩ : ∃ q : Nat, j = ((q + 1 : Nat) : Int) := ⟨(j - 1).toNat, by omega⟩
      subst hq
      have hqn : q + 1 < n := by omega
      have hl0 := HN.out
      obtain ⟨ad, hA, h1⟩ := (HR.out.below HB.out).2 (q + 1) hqn
      obtain ⟨ad2, hA2, h2⟩ := (HR.out.below HB.out).2 q (by omega)
      rw [hA] at hA2
      obtain rfl := Option.some.inj hA2
      subst hA
      have q0 : decide ((0 : Int) < (q : Int) + 1) = true := decide_eq_true (by omega)
      have q2 : (0 : Int) ≤ (q : Int) + 1 := by omega
      have q3 : (q : Int) + 1 < (n : Int) := by omega
      have q4 : wrap64 (q : Int) = (q : Int) := by have := HN.out; unfold wrap64; omega
      have q5 : (0 : Int) ≤ (q : Int) := by omega
      have q6 : (q : Int) < (n : Int) := by omega
      have q7 : ((q : Int) + 1).toNat = q + 1 := by omega
      have q8 : IntKind.i64.wrap ((q : Int) + 1 - 1) = (q : Int) := by rw [show (q : Int) + 1 - 1 = (q : Int) by omega, i64_w]; exact q4
      have HQ := Aside0.mk (And.intro hqn hl0)
      have h3 : wr.cell? ⟨ad.block, ad.off + (q + 1), none⟩ = some (.string (f0 (q + 1))) := by rw [← h1]; unfold Addr.add; rw [if_neg (by omega)]
      obtain ⟨b, hb⟩ : ∃ b, Op.bytesLess (f0 (q + 1)).toList (f0 q).toList = b := ⟨_, rfl⟩
      have HBB := Aside0.mk hb
      clear hb hp hj hj0 hqn hA2 hl0
      go_wp2
      go_quiet ((go_at_call 51; exact Calls.quiet_of_same (less_calls _ _ _)))
      have HB1 := Aside0.mk (pw_below_drewN HB.out nq)
      clear HB h1 h2 h3
      rw [HBB.out]
      cases b with
      | true =>
        have e1 := sorted_false n f0 q HQ.out.1 HBB.out
        go_wp2
        go_ret
        exact ⟨by rw [e1]; rfl, HB1.out⟩
      | false =>
        go_wp2
        go_roundw
        case measure =>
          rw [q4]
          show ((q : Int) + 1).toNat < (((q + 1 : Nat) : Int) + 1).toNat
          omega
        case rel =>
          refine ⟨(q : Int), by omega, by omega, by go_num, fun p h1 h2 => ?_, HB1.out⟩
          by_cases e : p = q
          · subst e; exact HBB.out
          · exact HL.out p (by omega) h2
    · have q0 : decide ((0 : Int) < j) = false := decide_eq_false hp
      have e1 := sorted_true n f0 (fun i hi => HL.out i (by omega) hi)
      go_wp2
      go_ret
      exact ⟨rfl, HB.out⟩
theorem keeps_iff (d : Array (List UInt8)) (j : Nat) : Lib.keeps d j = true ↔ j = 0 ∨ d[j]! ≠ d[j - 1]! := by
  unfold Lib.keeps; rw [decide_eq_true_eq]
theorem compact_len (zs : List (List UInt8)) : (Lib.compact zs).length = zs.length ↔ ∀ j, j + 1 < zs.length → zs[j + 1]! ≠ zs[j]! := by
  have h1 : (Lib.compact zs).length = ((List.range zs.length).filter (Lib.keeps zs.toArray)).length := by
    unfold Lib.compact Lib.compactUpTo
    rw [List.length_map]
  rw [h1]
  constructor
  · intro h j hj
    have h2 : (List.range zs.length).filter (Lib.keeps zs.toArray) = List.range zs.length :=
      (List.filter_sublist (l := List.range zs.length)).eq_of_length (by rw [h, List.length_range])
    have h3 := List.filter_eq_self.mp h2 (j + 1) (List.mem_range.mpr hj)
    rcases (keeps_iff _ _).mp h3 with h4 | h4
    · omega
    · simpa using h4
  · intro h
    have h2 : (List.range zs.length).filter (Lib.keeps zs.toArray) = List.range zs.length := by
      rw [List.filter_eq_self]
      intro j hj
      rw [List.mem_range] at hj
      refine (keeps_iff _ _).mpr ?_
      by_cases h0 : j = 0
      · exact .inl h0
      · obtain ⟨q, rfl⟩ : ∃ q, j = q + 1 := ⟨j - 1, by omega⟩
        exact .inr (by simpa using h q hj)
    rw [h2, List.length_range]
/-- so many stay where runs of the same are one -/
def stay (n : Nat) (f0 : Nat → ByteArray) : Nat := (Lib.compact (Lib.strsOf f0 n)).length
theorem stay_zero (f0 : Nat → ByteArray) : stay 0 f0 = 0 := rfl
theorem compact_calls (w0 : World) (v : Value) (xs : List ByteArray) (w : World) (hR : Kd.R Kd.string 9 w w0.heap.size (fun _ => True) v xs) (hB : Below w0.heap.size w0 w) :
    Calls Try.prog 44 #[v] w fun e w' => ∃ A c, e = .returned (.slice A (stay xs.length (fun i => xs.getD i ByteArray.empty)) c) ∧ Below w0.heap.size w0 w' := by
  obtain ⟨A, c, hv, hc, hC⟩ := Kd.R_reads hR
  obtain ⟨_, inner, ho, _⟩ := hR
  have hrd := Kd.reads_of_C (d := ByteArray.empty) hC
  rcases Nat.eq_zero_or_pos xs.length with h0 | h0
  · subst hv
    rw [h0, stay_zero]
    exact (Try.slices_Compact_string_empty A c w).mono fun e w' h => ⟨A, c, h.1, by rw [h.2]; exact hB⟩
  · rcases ho.2 with ⟨h1, h2⟩ | ⟨g, cap, cur, h1, hg, hh, hn, hcap, hsz, _⟩
    · omega
    · rw [hv] at h1
      injection h1 with h1 h2 h3
      subst h1 h3 hv
      have hf : ∀ j, j < xs.length → w.frozen? ⟨g, 0 + j, none⟩ = false := fun j _ => by rw [Nat.zero_add]; exact blk_frozen hh j
      have hcl : ∀ i, i < xs.length → w.cell? ⟨g, 0 + i, none⟩ = some (.string (xs.getD i ByteArray.empty)) := fun i hi => by
        obtain ⟨ad, e, h4⟩ := ReadsOf.at_ hrd (i : Int) (by omega) (by omega)
        injection e with e
        subst e
        rw [Int.toNat_natCast, rdOf, Int.toNat_natCast] at h4
        rw [← h4]
        unfold Addr.add
        by_cases hz : i = 0
        · subst hz; rw [if_pos rfl]
        · rw [if_neg hz]
      refine (Try.slices_Compact_string_cells g 0 xs.length c (fun i => xs.getD i ByteArray.empty) w (by have := hC.2.1; omega) hc hcl hf).mono ?_
      rintro e w' ⟨rfl, q, rfl⟩
      exact ⟨_, _, rfl, Go.below_setCells hg _ _ _ (pw_below_drewN hB q)⟩
def risesB (n : Nat) (f0 : Nat → ByteArray) : Bool := !decide (0 ≤ lgIdx n f0) && (sortedB n f0 && decide (stay n f0 = n))
set_option maxHeartbeats 8000000 in
set_option maxRecDepth 100000 in
theorem rises_calls (A : Option Addr) (n c : Nat) (xs : List ByteArray) (w : World) (hr : Kd.C Kd.string w A n xs) (hl : n * 16 ≤ 140737488355328) :
    Calls Try.prog 28 #[.slice A n c] w fun e w' => e = .returned (.bool (risesB n (fun i => xs.getD i ByteArray.empty))) ∧ Below w.heap.size w w' := by
  obtain ⟨f0, hf0⟩ : ∃ f0 : Nat → ByteArray, (fun i => xs.getD i ByteArray.empty) = f0 := ⟨_, rfl⟩
  have hrow : lgRow w A n f0 := ⟨hr.2.1, fun i hi => by
    obtain ⟨ad, e, h⟩ := ReadsOf.at_ (Kd.reads_of_C (d := ByteArray.empty) hr) (i : Int) (by omega) (by omega)
    rw [Int.toNat_natCast, rdOf, Int.toNat_natCast] at h
    exact ⟨ad, e, by rw [h, ← hf0]⟩⟩
  have hn := hr.1
  have HROW := Aside0.mk hrow
  have HC := Aside0.mk hr
  have HL := Aside0.mk hl
  have HN := Aside0.mk hn
  have HF := Aside0.mk hf0
  rw [hf0]
  clear hr hl hrow hn hf0
  obtain ⟨b1, hb1⟩ : ∃ b, decide (0 ≤ lgIdx n f0) = b := ⟨_, rfl⟩
  obtain ⟨b2, hb2⟩ : ∃ b, sortedB n f0 = b := ⟨_, rfl⟩
  obtain ⟨b3, hb3⟩ : ∃ b, decide (stay n f0 = n) = b := ⟨_, rfl⟩
  obtain ⟨m, hm⟩ : ∃ m, stay n f0 = m := ⟨_, rfl⟩
  have B1 := Aside0.mk hb1
  have B2 := Aside0.mk hb2
  have hmn : ((m : Int) == (n : Int)) = b3 := by rw [← hb3, hm, Bool.eq_iff_iff, beq_iff_eq, decide_eq_true_eq]; omega
  have HM := Aside0.mk hm
  have e_ : risesB n f0 = (!b1 && (b2 && b3)) := by rw [risesB, hb1, hb2, hb3]
  rw [e_]
  clear hb1 hb2 hb3 hm e_
  cases b1
  all_goals cases b2
  all_goals go_enter Try.func28, Try.ntmps28
  all_goals go_wp2_with (first | (go_at_call 41; (refine (lg_contains A n c f0 _ HROW.out).mono ?_); rintro e w1 ⟨rfl, hb⟩; rw [B1.out]; have HB := Aside0.mk hb; clear hb) | (go_at_call 43; (refine (sorted_calls A n c f0 _ (HROW.out.below HB.out)).mono ?_); rintro e w2 ⟨rfl, hb⟩; rw [B2.out]; have n_ := Aside0.mk (below_step HB.out hb); clear HB hb; have HB := n_; clear n_) | (go_at_call 45; (refine (st_clone A n c xs _ (Kd.C_below HC.out HB.out) HL.out).mono ?_); rintro e w3 ⟨v, rfl, hR, hb⟩; have n_ := Aside0.mk (below_step HB.out hb); have HR := Aside0.mk (Kd.R_lower hR HB.out.size); clear HB hb hR; have HB := n_; clear n_) | (go_at_call 44; (refine (compact_calls w v xs _ HR.out HB.out).mono ?_); rintro e w4 ⟨A4, c4, rfl, hb⟩; rw [HN.out, HF.out, HM.out]; clear HB HR; have HB := Aside0.mk hb; clear hb))
  all_goals go_ret
  all_goals exact ⟨rfl, HB.out⟩
end Go.Proofs.Ytcdnmpajobhdcaa.Nd
