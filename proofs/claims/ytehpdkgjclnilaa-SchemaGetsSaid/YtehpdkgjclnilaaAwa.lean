/- Indexes found, and cloned: slices.IndexFunc with the literal of schema.Find, schema.Find, slices.Clone, walked. -/
import Derived.Test.YtehpdkgjclnilaaPSchemaGetsx0
import Derived.Test.YtehpdkgjclnilaaXB
import Derived.Lib.LazyBuf
import Derived.Lib.SliceRun
import Derived.Sort.Walk0
namespace Go.Proofs.Ytehpdkgjclnilaa.PSchemaGets
open Go.RowKit Go.Proofs.YtehpdkgjclnilaaW.PrintWords Go.Proofs.YtehpdkgjclnilaaW.PrintLast Go.Proofs.YtehpdkgjclnilaaW.PrintMore
attribute [local go_sem] max2_int min2_int max_two min_two max_three min_three max_four min_four
set_option linter.unusedVariables false
set_option linter.unusedSimpArgs false
theorem measn {j n : Nat} (h : j < n) : n - ((j : Int) + 1).toNat < n - ((j : Int)).toNat := by omega
/-- an index of this label and key -/
def ixB (a b : Int) (x : S26) : Bool := x.f0 == a && x.f1 == b
set_option maxHeartbeats 8000000 in
set_option maxRecDepth 100000 in
theorem ix_lit (a b : Int) (p q : Addr) (x : S26) (w : World) (hp : w.cell? p = some (.int .i64 a)) (hq : w.cell? q = some (.int .i64 b)) (lp : p.block < w.heap.size) (lq : q.block < w.heap.size) :
    Calls Try.prog 28 #[.agg #[.int .i64 x.f0, .int .i64 x.f1, .int .i64 x.f2], .pointer (some p), .pointer (some q)] w fun e w' => e = .returned (.bool (ixB a b x)) ∧ Below w.heap.size w w' := by
  have hu26 := Try.underlying26
  have HB := Aside0.mk (Below.refl w.heap.size w)
  obtain ⟨c, hc⟩ : ∃ c, ixB a b x = c := ⟨_, rfl⟩
  have HC := Aside0.mk hc
  rw [hc]
  clear hc
  have HP := Aside0.mk hp
  have HQ := Aside0.mk hq
  clear hp hq
  go_enter Try.func28, Try.ntmps28
  go_wp2_with (first | (with_reducible refine gate_dst (N := 3) rfl ?_); refine box_event ?hg (N := 3) ?hd (cs := #[.int .i64 x.f0, .int .i64 x.f1, .int .i64 x.f2]) (t := 26) ?hr ?_; (case hd => rfl); (case hg => rfl); (case hr => first | (go_simp; done) | (go_simp; rfl)); intro gb hg w2 hbox hb; have n0_ := Aside0.mk (below_step HB.out hb); have n1_ := Aside0.mk hbox; have n2_ := Aside0.mk (pw_cell_below hb HP.out); have n3_ := Aside0.mk (pw_cell_below hb HQ.out); clear HB HP HQ; have HB := n0_; have BK := n1_; have HP := n2_; have HQ := n3_; clear n0_ n1_ n2_ n3_; clear hb hbox hg; have hz0 := (blk_cell BK.out 0).trans rfl; have hz1 := (blk_cell BK.out 1).trans rfl; have hp := HP.out; have hq := HQ.out)
  all_goals
    rename_i h
    go_ret
    refine ⟨?_, HB.out⟩
    rw [← HC.out]
    simp [ixB, h]
/-- the first element of which it holds -/
def ixIdx (a b : Int) (xs : List S26) : Int := match (List.range xs.length).find? (fun (j : Nat) => ixB a b (rd_T26 xs (j : Int))) with | some j => (j : Int) | none => -1
theorem ixIdx_at {a b : Int} {xs : List S26} {j : Nat} (hj : j < xs.length) (hb : ixB a b (rd_T26 xs (j : Int)) = true) (hl : ∀ q, q < j → ixB a b (rd_T26 xs ((q : Nat) : Int)) = false) : ixIdx a b xs = (j : Int) := by
  have h : (List.range xs.length).find? (fun (j : Nat) => ixB a b (rd_T26 xs (j : Int))) = some j := List.find?_range_eq_some.mpr ⟨hb, List.mem_range.mpr hj, fun q hq => by rw [hl q hq]; rfl⟩
  rw [ixIdx, h]
theorem ixIdx_none {a b : Int} {xs : List S26} (hl : ∀ q, q < xs.length → ixB a b (rd_T26 xs ((q : Nat) : Int)) = false) : ixIdx a b xs = -1 := by
  have h : (List.range xs.length).find? (fun (j : Nat) => ixB a b (rd_T26 xs (j : Int))) = none := List.find?_eq_none.mpr fun q hq => by rw [hl q (List.mem_range.mp hq)]; decide
  rw [ixIdx, h]
set_option maxHeartbeats 8000000 in
set_option maxRecDepth 100000 in
theorem ix_index (a b : Int) (p q : Addr) (A : Option Addr) (c : Nat) (xs : List S26) (w : World) (hr : Kd.C k26 w A xs.length xs) (hn : xs.length ≤ 9223372036854775807) (hp : w.cell? p = some (.int .i64 a)) (hq : w.cell? q = some (.int .i64 b)) (lp : p.block < w.heap.size) (lq : q.block < w.heap.size) :
    Calls Try.prog 27 #[.slice A xs.length c, .func (.func 28) #[] #[.pointer (some p), .pointer (some q)]] w fun e w' => e = .returned (.int .i64 (ixIdx a b xs)) ∧ Below w.heap.size w w' := by
  have hu26 := Try.underlying26
  have HB := Aside0.mk (Below.refl w.heap.size w)
  have HR := Aside0.mk hr
  have HP := Aside0.mk hp
  have HQ := Aside0.mk hq
  have LP := Aside0.mk lp
  have LQ := Aside0.mk lq
  clear hr hp hq lp lq
  go_enter Try.func27, Try.ntmps27
  go_wp2
  go_loopw [8] (fun i w' => ∃ j : Nat, j ≤ xs.length ∧ i = .int .i64 (j : Int) ∧ (∀ q, q < j → ixB a b (rd_T26 xs ((q : Nat) : Int)) = false) ∧ Below w.heap.size w w') (fun i _ => xs.length - (intOf i).toNat)
  case atStart => exact ⟨0, Nat.zero_le _, rfl, fun q hq => absurd hq (Nat.not_lt_zero q), HB.out⟩
  case round =>
    clear HB
    obtain ⟨j, hj, rfl, hl, hB⟩ := hrel
    have HL := Aside0.mk hl
    have HB := Aside0.mk hB
    clear hl hB
    by_cases hlt : j < xs.length
    · obtain ⟨ad, hA, h0, h1, h2⟩ := at_T26 (Kd.C_below HR.out HB.out) (j : Int) (by omega) (by omega)
      rw [Int.toNat_natCast] at h0 h1 h2
      have q0 : decide ((j : Int) < (xs.length : Int)) = true := decide_eq_true (by omega)
      have q0n : decide (j < xs.length) = true := decide_eq_true hlt
      have q2 : (0 : Int) ≤ j := by omega
      have q3 : (j : Int) < (xs.length : Int) := by omega
      have hwj : wrap64 ((j : Int) + 1) = (j : Int) + 1 := by unfold wrap64; omega
      subst hA
      obtain ⟨bb, hb⟩ : ∃ bb, ixB a b (rd_T26 xs (j : Int)) = bb := ⟨_, rfl⟩
      have HBB := Aside0.mk hb
      clear hb
      go_wp2_with (first | (go_at_call 28; fail))
      refine (ix_lit a b p q (rd_T26 xs (j : Int)) _ (pw_cell_below HB.out HP.out) (pw_cell_below HB.out HQ.out) (Nat.lt_of_lt_of_le LP.out HB.out.size) (Nat.lt_of_lt_of_le LQ.out HB.out.size)).mono ?_
      rintro e w1 ⟨rfl, hb⟩
      have HB1 := Aside0.mk (below_step HB.out hb)
      clear HB hb h0 h1 h2
      rw [HBB.out]
      cases bb with
      | true =>
        have ei := ixIdx_at (a := a) (b := b) (xs := xs) hlt HBB.out HL.out
        go_wp2
        go_ret
        exact ⟨by rw [ei]; rfl, HB1.out⟩
      | false =>
        go_wp2
        go_roundw
        case measure => exact measn hlt
        case rel => exact ⟨j + 1, hlt, by go_num, fun q hq => by rcases Nat.lt_succ_iff_lt_or_eq.mp hq with h | rfl; exact HL.out q h; exact HBB.out, HB1.out⟩
    · have q0 : decide ((j : Int) < (xs.length : Int)) = false := decide_eq_false (by omega)
      have q0n : decide (j < xs.length) = false := decide_eq_false hlt
      have ej : j = xs.length := by omega
      have e1 := ixIdx_none (a := a) (b := b) (xs := xs) (fun q hq => HL.out q (by omega))
      go_wp2
      go_ret
      exact ⟨by rw [e1]; rfl, HB.out⟩
/-- how a label's key is found -/
def fnd (a b : Int) (xs : List S26) : Int := if ixIdx a b xs < 0 then 0 else (rd_T26 xs (ixIdx a b xs)).f2
theorem ixIdx_lt (a b : Int) (xs : List S26) : ixIdx a b xs < (xs.length : Int) := by
  unfold ixIdx
  cases h : (List.range xs.length).find? (fun (j : Nat) => ixB a b (rd_T26 xs (j : Int))) with
  | none => simp only []; omega
  | some j => simp only []; have := List.mem_range.mp (List.mem_of_find?_eq_some h); omega
set_option maxHeartbeats 8000000 in
set_option maxRecDepth 100000 in
theorem find_calls (A : Option Addr) (c : Nat) (xs : List S26) (a b : Int) (w : World) (hr : Kd.C k26 w A xs.length xs) (hn : xs.length ≤ 9223372036854775807) :
    Calls Try.prog 15 #[.slice A xs.length c, .int .i64 a, .int .i64 b] w fun e w' => e = .returned (.int .i64 (fnd a b xs)) ∧ Below w.heap.size w w' := by
  have hu26 := Try.underlying26
  have HB := Aside0.mk (Below.refl w.heap.size w)
  have HR := Aside0.mk hr
  clear hr
  go_enter Try.func15, Try.ntmps15
  go_wp2_with (first
    | ((with_reducible refine gate_dst (N := 4) rfl ?_); refine box_event ?hg (N := 4) ?hd (cs := #[.int .i64 a]) (t := 3) ?hr ?_; (case hd => rfl); (case hg => rfl); (case hr => first | (go_simp; done) | (go_simp; rfl)); intro gb hg w2 hbox hb; have n0_ := Aside0.mk (below_step HB.out hb); have n1_ := Aside0.mk hbox; clear HB; have HB := n0_; have BK := n1_; clear n0_ n1_; clear hb hbox hg)
    | ((with_reducible refine gate_dst (N := 5) rfl ?_); refine box_event ?hg (N := 5) ?hd (cs := #[.int .i64 b]) (t := 3) ?hr ?_; (case hd => rfl); (case hg => rfl); (case hr => first | (go_simp; done) | (go_simp; rfl)); intro gc hg w3 hbox hb; have n0_ := Aside0.mk (below_step HB.out hb); have n1_ := Aside0.mk hbox; have n2_ := Aside0.mk (blk_below (g := gb) BK.out hb); clear HB BK; have HB := n0_; have CK := n1_; have BK := n2_; clear n0_ n1_ n2_; clear hb hbox hg))
  refine (ix_index a b ⟨gb, 0, none⟩ ⟨gc, 0, none⟩ A c xs _ (Kd.C_below HR.out HB.out) hn ((blk_cell BK.out 0).trans rfl) ((blk_cell CK.out 0).trans rfl) (blk_lt BK.out) (blk_lt CK.out)).mono ?_
  rintro e w4 ⟨rfl, hb⟩
  have HB1 := Aside0.mk (below_step HB.out hb)
  clear HB BK CK hb
  have hlt := ixIdx_lt a b xs
  obtain ⟨i, hi⟩ : ∃ i, ixIdx a b xs = i := ⟨_, rfl⟩
  have HF := Aside0.mk (show fnd a b xs = if i < 0 then 0 else (rd_T26 xs i).f2 by rw [fnd, hi])
  rw [hi] at hlt ⊢
  clear hi
  by_cases h : i < 0
  · have c0 : decide (i < 0) = true := decide_eq_true h
    rw [if_pos h] at HF
    go_wp2
    go_ret
    exact ⟨by rw [HF.out]; rfl, HB1.out⟩
  · have c0 : decide (i < 0) = false := decide_eq_false h
    rw [if_neg h] at HF
    have p0 : 0 ≤ i := by omega
    obtain ⟨ad, hA, h0, h1, h2⟩ := at_T26 (Kd.C_below HR.out HB1.out) i p0 hlt
    subst hA
    have q0 := eq_true p0
    have q1 := eq_true hlt
    clear hlt
    go_wp2
    go_ret
    exact ⟨by rw [HF.out]; rfl, HB1.out⟩
set_option maxHeartbeats 8000000 in
set_option maxRecDepth 100000 in
theorem ix_clone (A : Option Addr) (n c : Nat) (xs : List (S26)) (w : World) (hr : Kd.C k26 w A n xs) (hl : n * 24 ≤ 140737488355328) :
    Calls Try.prog 24 #[.slice A n c] w fun e w' => ∃ v, e = .returned v ∧ Kd.R k26 26 w' w.heap.size (fun _ => True) v xs ∧ Below w.heap.size w w' := by
  have hn := hr.1
  have HR := Aside0.mk hr
  have HL := Aside0.mk hl
  have q_ := fun (W : World) => Lib.run_eql_slice_nil (P := Try.prog) W 22 26 A n c 0 0 Try.underlying22
  cases A with
  | none =>
    have h0 : n = 0 := by
      rcases Nat.eq_zero_or_pos n with h | h
      · exact h
      · obtain ⟨ad, e, _⟩ := HR.out.2.2 h
        cases e
    have hx : xs = [] := List.eq_nil_of_length_eq_zero (by omega)
    subst hx
    subst h0
    have q1_ : ∀ W : World, (binOp .eql 22 (.slice none 0 c) (.slice none 0 0)).run Try.prog W = .ok (.bool true) W := fun W => q_ W
    clear hr hl hn HR HL q_
    go_enter Try.func24, Try.ntmps24
    go_wp2
    go_ret
    exact ⟨_, rfl, Kd.R_nil _ _ _ _ _, Below.refl _ _⟩
  | some ad =>
    have HN := Aside0.mk hn
    clear hr hl hn
    go_enter Try.func24, Try.ntmps24
    go_wp2_with (at_builtin; refine Kd.R_append_rows (w0 := w) k26 w.heap.size rfl _ _ 22 26 (.agg #[.int .i64 0, .int .i64 0, .int .i64 0]) 24 rfl Try.underlying22 ?qi ?q1 ?q2 ?q3 (.slice (some ⟨w.heap.size, 0, none⟩) 0 0) [] xs (some ad) n c (fun _ => True) (fun _ => False) rfl rfl ?q4 (Kd.C_below HR.out (below_alloc (Below.refl _ _) _)) ?q5 ?q6 ?q7 (below_alloc (Below.refl _ _) _) ?q8 ?q9 ?_)
    case qi => kernel_rfl
    case q1 => rfl
    case q2 => decide
    case q3 => decide
    case q4 => exact ⟨fun _ _ => trivial, [], World.ownsRow_made w #[] 0 (Nat.le_refl _) (Nat.zero_le _) rfl, Reps.none _ _⟩
    case q5 => exact fun _ _ h => h
    case q6 => exact fun _ h => h.elim
    case q7 => exact fun _ _ => trivial
    case q8 => simp
    case q9 => have := HL.out; simpa using this
    intro v1 w1 hR hB hG hO
    have HB := Aside0.mk hB
    have HR1 := Aside0.mk hR
    clear hR hB hG hO
    go_wp2
    go_ret
    exact ⟨v1, rfl, HR1.out, HB.out⟩
end Go.Proofs.Ytehpdkgjclnilaa.PSchemaGets
