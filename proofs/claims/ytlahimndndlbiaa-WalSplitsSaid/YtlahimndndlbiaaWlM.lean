/- A record that may be: wal.May, walked. -/
import Derived.Test.YtlahimndndlbiaaXI
namespace Go.Proofs.Ytlahimndndlbiaa.Wl
open Go.RowKit Go.Proofs.YtlahimndndlbiaaW.PrintWords Go.Proofs.YtlahimndndlbiaaW.PrintLast Go.Proofs.YtlahimndndlbiaaW.PrintMore
attribute [local go_sem] max2_int min2_int max_two min_two max_three min_three max_four min_four   -- for this text's walks alone
set_option linter.unusedVariables false
set_option linter.unusedSimpArgs false
/-- a change that may not be -/
def badP (key val : ByteArray) (gone : Bool) : Prop := key.toList = [] ∨ (96 : Int) < key.size ∨ (4096 : Int) < val.size ∨ (gone = true ∧ val.toList ≠ [])
def badB (key val : ByteArray) (gone : Bool) : Bool := (key.toList == []) || (decide ((96 : Int) < key.size) || (decide ((4096 : Int) < val.size) || (gone && (val.toList != []))))
theorem badB_iff (key val : ByteArray) (gone : Bool) : badB key val gone = true ↔ badP key val gone := by
  simp only [badB, badP, Bool.and_eq_true, Bool.or_eq_true, beq_iff_eq, decide_eq_true_eq, bne_iff_ne]
theorem badB_of {key val : ByteArray} {gone : Bool} {b : Bool} (h : b = true ↔ badP key val gone) : b = badB key val gone := Bool.eq_iff_iff.mpr (h.trans (badB_iff ..).symm)
set_option maxHeartbeats 8000000 in
set_option maxRecDepth 100000 in
theorem bad_calls (key val : ByteArray) (gone : Bool) (w : World) : Calls Try.prog 31 #[.agg #[.string key, .string val, .bool gone]] w fun e w' => e = .returned (.bool (badB key val gone)) ∧ Below w.heap.size w w' := by
  have hu33 := Try.underlying33
  have HB := Aside0.mk (Below.refl w.heap.size w)
  go_enter Try.func31, Try.ntmps31
  go_wp2_with (first | ((with_reducible refine gate_dst (N := 1) rfl ?_); (try (refine gate_guard (by rfl) ?_; dsimp only)); refine box_event ?hg (N := 1) ?hd (cs := #[.string key, .string val, .bool gone]) (t := 33) ?hr ?_; (case hd => rfl); (case hg => rfl); (case hr => first | (go_simp; done) | (go_simp; rfl)); intro gb101 hg w14 hbox hb; have n0_ := Aside0.mk (below_step HB.out hb); have BK101 := Aside0.mk (hbox); clear HB; have HB := n0_; clear n0_; clear hb hbox hg; have hcz_0 : w14.cell? ⟨gb101, 0, none⟩ = some (.string key) := (blk_cell BK101.out 0).trans rfl; have hcz_1 : w14.cell? ⟨gb101, 1, none⟩ = some (.string val) := (blk_cell BK101.out 1).trans rfl; have hcz_2 : w14.cell? ⟨gb101, 2, none⟩ = some (.bool gone) := (blk_cell BK101.out 2).trans rfl))
  all_goals go_ret
  all_goals refine ⟨congrArg (fun b => Ending.returned (Value.bool b)) (badB_of ?_), HB.out⟩
  all_goals unfold badP
  all_goals clear HB BK101
  all_goals try subst_vars
  all_goals simp [*]
  all_goals first | omega | exact or_assoc
/-- a row of changes, read -/
def Row (w : World) (A : Option Addr) (n : Nat) (f0 f1 : Nat → ByteArray) (f2 : Nat → Bool) : Prop :=
  n ≤ 9223372036854775807 ∧ ∀ i, i < n → ∃ ad, A = some ad ∧ w.cell? (ad.add (i * 3)) = some (.string (f0 i)) ∧ w.cell? ⟨(ad.add (i * 3)).block, (ad.add (i * 3)).off + 1, none⟩ = some (.string (f1 i)) ∧ w.cell? ⟨(ad.add (i * 3)).block, (ad.add (i * 3)).off + 2, none⟩ = some (.bool (f2 i))
theorem Row.below {w w1 : World} {A : Option Addr} {n : Nat} {f0 f1 : Nat → ByteArray} {f2 : Nat → Bool} (h : Row w A n f0 f1 f2) (hb : Below w.heap.size w w1) : Row w1 A n f0 f1 f2 :=
  ⟨h.1, fun i hi => by
    obtain ⟨ad, e, h0, h1, h2⟩ := h.2 i hi
    exact ⟨ad, e, pw_cell_below hb h0, pw_cell_below hb h1, pw_cell_below hb h2⟩⟩
theorem measn {j n : Nat} (h : j < n) : n - ((j : Int) + 1).toNat < n - ((j : Int)).toNat := by omega
def badAt (f0 f1 : Nat → ByteArray) (f2 : Nat → Bool) (j : Nat) : Bool := badB (f0 j) (f1 j) (f2 j)
/-- the first change that may not be -/
def idx (n : Nat) (f0 f1 : Nat → ByteArray) (f2 : Nat → Bool) : Int := match (List.range n).find? (badAt f0 f1 f2) with | some j => (j : Int) | none => -1
theorem idx_at {n : Nat} {f0 f1 : Nat → ByteArray} {f2 : Nat → Bool} {j : Nat} (hj : j < n) (hb : badAt f0 f1 f2 j = true) (hl : ∀ q, q < j → badAt f0 f1 f2 q = false) : idx n f0 f1 f2 = (j : Int) := by
  have h : (List.range n).find? (badAt f0 f1 f2) = some j := List.find?_range_eq_some.mpr ⟨hb, List.mem_range.mpr hj, fun q hq => by rw [hl q hq]; rfl⟩
  rw [idx, h]
theorem idx_none {n : Nat} {f0 f1 : Nat → ByteArray} {f2 : Nat → Bool} (hl : ∀ q, q < n → badAt f0 f1 f2 q = false) : idx n f0 f1 f2 = -1 := by
  have h : (List.range n).find? (badAt f0 f1 f2) = none := List.find?_eq_none.mpr fun q hq => by rw [hl q (List.mem_range.mp hq)]; decide
  rw [idx, h]
set_option maxHeartbeats 8000000 in
set_option maxRecDepth 100000 in
theorem index_calls (A : Option Addr) (n c : Nat) (f0 f1 : Nat → ByteArray) (f2 : Nat → Bool) (w : World) (hr : Row w A n f0 f1 f2) :
    Calls Try.prog 36 #[.slice A n c, .func (.func 31) #[] #[]] w fun e w' => e = .returned (.int .i64 (idx n f0 f1 f2)) ∧ Below w.heap.size w w' := by
  have hu33 := Try.underlying33
  have HB := Aside0.mk (Below.refl w.heap.size w)
  have HR := Aside0.mk hr
  have hn := hr.1
  clear hr
  go_enter Try.func36, Try.ntmps36
  go_wp2
  go_loopw [8] (fun i w' => ∃ j : Nat, j ≤ n ∧ i = .int .i64 (j : Int) ∧ (∀ q, q < j → badAt f0 f1 f2 q = false) ∧ Below w.heap.size w w') (fun i _ => n - (intOf i).toNat)
  case atStart => exact ⟨0, Nat.zero_le _, rfl, fun q hq => absurd hq (Nat.not_lt_zero q), HB.out⟩
  case round =>
    clear HB
    obtain ⟨j, hj, rfl, hl, hB⟩ := hrel
    have HL := Aside0.mk hl
    have HB := Aside0.mk hB
    clear hl hB
    by_cases hlt : j < n
    · obtain ⟨ad, hA, h0, h1, h2⟩ := (HR.out.below HB.out).2 j hlt
      have q0 : decide ((j : Int) < (n : Int)) = true := decide_eq_true (by omega)
      have q0n : decide (j < n) = true := decide_eq_true hlt
      have q2 : (0 : Int) ≤ j := by omega
      have q3 : (j : Int) < (n : Int) := by omega
      have hwj : wrap64 ((j : Int) + 1) = (j : Int) + 1 := by unfold wrap64; omega
      subst hA
      obtain ⟨b, hb⟩ : ∃ b, badB (f0 j) (f1 j) (f2 j) = b := ⟨_, rfl⟩
      have HBB := Aside0.mk hb
      clear hb
      go_wp2_with (first | (go_at_call 31; fail))
      refine (bad_calls _ _ _ _).mono ?_
      rintro e w1 ⟨rfl, hb⟩
      have HB1 := Aside0.mk (below_step HB.out hb)
      clear HB hb h0 h1 h2
      rw [HBB.out]
      cases b with
      | true =>
        have ei := idx_at (n := n) hlt HBB.out HL.out
        go_wp2
        go_ret
        exact ⟨by rw [ei]; rfl, HB1.out⟩
      | false =>
        go_wp2
        go_roundw
        case measure => exact measn hlt
        case rel => exact ⟨j + 1, hlt, by go_num, fun q hq => by rcases Nat.lt_succ_iff_lt_or_eq.mp hq with h | rfl; exact HL.out q h; exact HBB.out, HB1.out⟩
    · have q0 : decide ((j : Int) < (n : Int)) = false := decide_eq_false (by omega)
      have q0n : decide (j < n) = false := decide_eq_false hlt
      have ej : j = n := by omega
      have e1 := idx_none (n := n) (fun q hq => HL.out q (by omega))
      go_wp2
      go_ret
      exact ⟨by rw [e1]; rfl, HB.out⟩
set_option maxHeartbeats 8000000 in
set_option maxRecDepth 100000 in
theorem contains_calls (A : Option Addr) (n c : Nat) (f0 f1 : Nat → ByteArray) (f2 : Nat → Bool) (w : World) (hr : Row w A n f0 f1 f2) :
    Calls Try.prog 30 #[.slice A n c, .func (.func 31) #[] #[]] w fun e w' => e = .returned (.bool (decide (0 ≤ idx n f0 f1 f2))) ∧ Below w.heap.size w w' := by
  have HR := Aside0.mk hr
  clear hr
  go_enter Try.func30, Try.ntmps30
  go_wp2_with (first | (go_at_call 36; fail))
  refine (index_calls A n c f0 f1 f2 _ HR.out).mono ?_
  rintro e w1 ⟨rfl, hb⟩
  go_wp2
  go_ret
  exact ⟨rfl, hb⟩
def mayB (n : Nat) (f0 f1 : Nat → ByteArray) (f2 : Nat → Bool) : Bool := decide (1 ≤ n) && (decide (n ≤ 256) && !decide (0 ≤ idx n f0 f1 f2))
set_option maxHeartbeats 8000000 in
set_option maxRecDepth 100000 in
theorem may_calls (A : Option Addr) (n c : Nat) (f0 f1 : Nat → ByteArray) (f2 : Nat → Bool) (w : World) (hr : Row w A n f0 f1 f2) :
    Calls Try.prog 12 #[.slice A n c] w fun e w' => e = .returned (.bool (mayB n f0 f1 f2)) ∧ Below w.heap.size w w' := by
  have hn := hr.1
  have HR := Aside0.mk hr
  clear hr
  by_cases c1 : n < 1
  · have a1 : decide ((n : Int) < 1) = true := decide_eq_true (by omega)
    have a2 : decide (1 ≤ n) = false := decide_eq_false (by omega)
    go_enter Try.func12, Try.ntmps12
    go_wp2
    all_goals go_ret
    all_goals exact ⟨by rw [mayB, a2]; rfl, Below.refl _ _⟩
  · have a1 : decide ((n : Int) < 1) = false := decide_eq_false (by omega)
    have a2 : decide (1 ≤ n) = true := decide_eq_true (by omega)
    by_cases c2 : 256 < n
    · have b1 : decide (256 < (n : Int)) = true := decide_eq_true (by omega)
      have b2 : decide (n ≤ 256) = false := decide_eq_false (by omega)
      go_enter Try.func12, Try.ntmps12
      go_wp2
      all_goals go_ret
      all_goals exact ⟨by rw [mayB, a2, b2]; rfl, Below.refl _ _⟩
    · have b1 : decide (256 < (n : Int)) = false := decide_eq_false (by omega)
      have b2 : decide (n ≤ 256) = true := decide_eq_true (by omega)
      have cn : 1 ≤ (n : Int) := by omega
      have cm : (n : Int) ≤ 256 := by omega
      go_enter Try.func12, Try.ntmps12
      go_wp2_with (first | (go_at_call 30; fail))
      refine (contains_calls A n c f0 f1 f2 _ HR.out).mono ?_
      rintro e w1 ⟨rfl, hb⟩
      go_wp2
      go_ret
      exact ⟨by rw [mayB, a2, b2]; rfl, hb⟩
end Go.Proofs.Ytlahimndndlbiaa.Wl
