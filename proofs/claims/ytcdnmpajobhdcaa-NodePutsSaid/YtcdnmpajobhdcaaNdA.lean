/- A node's keys: whether they rise; entries and pages below that may not be: walked. -/
import Derived.Test.YtcdnmpajobhdcaaXI
import Derived.Test.YtcdnmpajobhdcaaLib
namespace Go.Proofs.Ytcdnmpajobhdcaa.Nd
open Go.RowKit Go.Proofs.YtcdnmpajobhdcaaW.PrintWords Go.Proofs.YtcdnmpajobhdcaaW.PrintLast Go.Proofs.YtcdnmpajobhdcaaW.PrintMore
attribute [local go_sem] max2_int min2_int max_two min_two max_three min_three max_four min_four   -- for this text's walks alone
set_option linter.unusedVariables false
set_option linter.unusedSimpArgs false
theorem measn {j n : Nat} (h : j < n) : n - ((j : Int) + 1).toNat < n - ((j : Int)).toNat := by omega
/-! ### the literals -/
def lgB (s : ByteArray) : Bool := decide ((96 : Int) < (s.size : Int))
set_option maxHeartbeats 8000000 in
set_option maxRecDepth 100000 in
theorem lg_lit (s : ByteArray) (w : World) : Calls Try.prog 42 #[.string s] w fun e w' => e = .returned (.bool (lgB s)) ∧ Below w.heap.size w w' := by
  go_enter Try.func42, Try.ntmps42
  go_wp2
  go_ret
  exact ⟨rfl, Below.refl _ _⟩
def enP (key val : ByteArray) : Prop := key.toList = [] ∨ (80 : Int) < val.size
def enB (key val : ByteArray) : Bool := (key.toList == []) || decide ((80 : Int) < val.size)
theorem enB_iff (key val : ByteArray) : enB key val = true ↔ enP key val := by
  simp only [enB, enP, Bool.or_eq_true, beq_iff_eq, decide_eq_true_eq]
theorem enB_of {key val : ByteArray} {b : Bool} (h : b = true ↔ enP key val) : b = enB key val := Bool.eq_iff_iff.mpr (h.trans (enB_iff ..).symm)
set_option maxHeartbeats 8000000 in
set_option maxRecDepth 100000 in
theorem en_lit (key val : ByteArray) (w : World) : Calls Try.prog 31 #[.agg #[.string key, .string val]] w fun e w' => e = .returned (.bool (enB key val)) ∧ Below w.heap.size w w' := by
  have hu43 := Try.underlying43
  have HB := Aside0.mk (Below.refl w.heap.size w)
  go_enter Try.func31, Try.ntmps31
  go_wp2_with (first | ((with_reducible refine gate_dst (N := 1) rfl ?_); (try (refine gate_guard (by rfl) ?_; dsimp only)); refine box_event ?hg (N := 1) ?hd (cs := #[.string key, .string val]) (t := 43) ?hr ?_; (case hd => rfl); (case hg => rfl); (case hr => first | (go_simp; done) | (go_simp; rfl)); intro gb101 hg w14 hbox hb; have n0_ := Aside0.mk (below_step HB.out hb); have BK101 := Aside0.mk (hbox); clear HB; have HB := n0_; clear n0_; clear hb hbox hg; have hcz_0 : w14.cell? ⟨gb101, 0, none⟩ = some (.string key) := (blk_cell BK101.out 0).trans rfl; have hcz_1 : w14.cell? ⟨gb101, 1, none⟩ = some (.string val) := (blk_cell BK101.out 1).trans rfl))
  all_goals go_ret
  all_goals refine ⟨congrArg (fun b => Ending.returned (Value.bool b)) (enB_of ?_), HB.out⟩
  all_goals unfold enP
  all_goals clear HB BK101
  all_goals try subst_vars
  all_goals simp [*]
  all_goals omega
def kdP (low : ByteArray) (pl : Int) (sum : ByteArray) : Prop := pl < 0 ∨ 4096 ≤ pl ∨ (sum.size : Int) ≠ 32
def kdB (low : ByteArray) (pl : Int) (sum : ByteArray) : Bool := decide (pl < 0) || (decide (4096 ≤ pl) || ((sum.size : Int) != 32))
theorem kdB_iff (low : ByteArray) (pl : Int) (sum : ByteArray) : kdB low pl sum = true ↔ kdP low pl sum := by
  simp only [kdB, kdP, Bool.or_eq_true, decide_eq_true_eq, bne_iff_ne]
theorem kdB_of {low : ByteArray} {pl : Int} {sum : ByteArray} {b : Bool} (h : b = true ↔ kdP low pl sum) : b = kdB low pl sum := Bool.eq_iff_iff.mpr (h.trans (kdB_iff ..).symm)
set_option maxHeartbeats 8000000 in
set_option maxRecDepth 100000 in
theorem kd_lit (low : ByteArray) (pl : Int) (sum : ByteArray) (w : World) : Calls Try.prog 33 #[.agg #[.string low, .int .i64 pl, .string sum]] w fun e w' => e = .returned (.bool (kdB low pl sum)) ∧ Below w.heap.size w w' := by
  have hu41 := Try.underlying41
  have hu39 := Try.underlying39
  have HB := Aside0.mk (Below.refl w.heap.size w)
  go_enter Try.func33, Try.ntmps33
  go_wp2_with (first | ((with_reducible refine gate_dst (N := 1) rfl ?_); (try (refine gate_guard (by rfl) ?_; dsimp only)); refine box_event ?hg (N := 1) ?hd (cs := #[.string low, .int .i64 pl, .string sum]) (t := 41) ?hr ?_; (case hd => rfl); (case hg => rfl); (case hr => first | (go_simp; done) | (go_simp; rfl)); intro gb101 hg w14 hbox hb; have n0_ := Aside0.mk (below_step HB.out hb); have BK101 := Aside0.mk (hbox); clear HB; have HB := n0_; clear n0_; clear hb hbox hg; have hcz_0 : w14.cell? ⟨gb101, 0, none⟩ = some (.string low) := (blk_cell BK101.out 0).trans rfl; have hcz_1 : w14.cell? ⟨gb101, 1, none⟩ = some (.int .i64 pl) := (blk_cell BK101.out 1).trans rfl; have hcz_2 : w14.cell? ⟨gb101, 2, none⟩ = some (.string sum) := (blk_cell BK101.out 2).trans rfl))
  all_goals go_ret
  all_goals refine ⟨congrArg (fun b => Ending.returned (Value.bool b)) (kdB_of ?_), HB.out⟩
  all_goals unfold kdP
  all_goals clear HB BK101
  all_goals try subst_vars
  all_goals simp [*]
  all_goals omega
/-! ### the rows -/
/-- a row of such elements, read -/
def lgRow (w : World) (A : Option Addr) (n : Nat) (f0 : Nat → ByteArray) : Prop :=
  n ≤ 9223372036854775807 ∧ ∀ i, i < n → ∃ ad, A = some ad ∧ w.cell? (ad.add i) = some (.string (f0 i))
theorem lgRow.below {w w1 : World} {A : Option Addr} {n : Nat} {f0 : Nat → ByteArray} (h : lgRow w A n f0) (hb : Below w.heap.size w w1) : lgRow w1 A n f0 :=
  ⟨h.1, fun i hi => by
    obtain ⟨ad, e, h0⟩ := h.2 i hi
    exact ⟨ad, e, pw_cell_below hb h0⟩⟩
def lgAt (f0 : Nat → ByteArray) (j : Nat) : Bool := lgB (f0 j)
/-- the first element of which it holds -/
def lgIdx (n : Nat) (f0 : Nat → ByteArray) : Int := match (List.range n).find? (lgAt f0) with | some j => (j : Int) | none => -1
theorem lgIdx_at {n : Nat} {f0 : Nat → ByteArray} {j : Nat} (hj : j < n) (hb : lgAt f0 j = true) (hl : ∀ q, q < j → lgAt f0 q = false) : lgIdx n f0 = (j : Int) := by
  have h : (List.range n).find? (lgAt f0) = some j := List.find?_range_eq_some.mpr ⟨hb, List.mem_range.mpr hj, fun q hq => by rw [hl q hq]; rfl⟩
  rw [lgIdx, h]
theorem lgIdx_none {n : Nat} {f0 : Nat → ByteArray} (hl : ∀ q, q < n → lgAt f0 q = false) : lgIdx n f0 = -1 := by
  have h : (List.range n).find? (lgAt f0) = none := List.find?_eq_none.mpr fun q hq => by rw [hl q (List.mem_range.mp hq)]; decide
  rw [lgIdx, h]
set_option maxHeartbeats 8000000 in
set_option maxRecDepth 100000 in
theorem lg_index (A : Option Addr) (n c : Nat) (f0 : Nat → ByteArray) (w : World) (hr : lgRow w A n f0) :
    Calls Try.prog 50 #[.slice A n c, .func (.func 42) #[] #[]] w fun e w' => e = .returned (.int .i64 (lgIdx n f0)) ∧ Below w.heap.size w w' := by
  have HB := Aside0.mk (Below.refl w.heap.size w)
  have HR := Aside0.mk hr
  have hn := hr.1
  clear hr
  go_enter Try.func50, Try.ntmps50
  go_wp2
  go_loopw [8] (fun i w' => ∃ j : Nat, j ≤ n ∧ i = .int .i64 (j : Int) ∧ (∀ q, q < j → lgAt f0 q = false) ∧ Below w.heap.size w w') (fun i _ => n - (intOf i).toNat)
  case atStart => exact ⟨0, Nat.zero_le _, rfl, fun q hq => absurd hq (Nat.not_lt_zero q), HB.out⟩
  case round =>
    clear HB
    obtain ⟨j, hj, rfl, hl, hB⟩ := hrel
    have HL := Aside0.mk hl
    have HB := Aside0.mk hB
    clear hl hB
    by_cases hlt : j < n
    · obtain ⟨ad, hA, h0⟩ := (HR.out.below HB.out).2 j hlt
      have q0 : decide ((j : Int) < (n : Int)) = true := decide_eq_true (by omega)
      have q0n : decide (j < n) = true := decide_eq_true hlt
      have q2 : (0 : Int) ≤ j := by omega
      have q3 : (j : Int) < (n : Int) := by omega
      have hwj : wrap64 ((j : Int) + 1) = (j : Int) + 1 := by unfold wrap64; omega
      subst hA
      obtain ⟨b, hb⟩ : ∃ b, lgB (f0 j) = b := ⟨_, rfl⟩
      have HBB := Aside0.mk hb
      clear hb
      go_wp2_with (first | (go_at_call 42; fail))
      refine (lg_lit _ _).mono ?_
      rintro e w1 ⟨rfl, hb⟩
      have HB1 := Aside0.mk (below_step HB.out hb)
      clear HB hb h0
      rw [HBB.out]
      cases b with
      | true =>
        have ei := lgIdx_at (n := n) hlt HBB.out HL.out
        go_wp2
        go_ret
        exact ⟨by rw [ei]; rfl, HB1.out⟩
      | false =>
        go_wp2
        go_roundw
        case measure => exact measn hlt
        case rel => exact ⟨j + 1, hlt, by go_num, fun q hq => by rcases Nat.lt_succ_iff_lt_or_eq.mp hq with h | rfl; exact HL.out q h; exact HBB.out, HB1.out⟩
    · have q0 : decide ((j : Int) < (n : Int)) = false := decide_eq_false (by omega)
      have q0n : decide (j < n) = false := decide_eq_false hlt
      have ej : j = n := by omega
      have e1 := lgIdx_none (n := n) (fun q hq => HL.out q (by omega))
      go_wp2
      go_ret
      exact ⟨by rw [e1]; rfl, HB.out⟩
set_option maxHeartbeats 8000000 in
set_option maxRecDepth 100000 in
theorem lg_contains (A : Option Addr) (n c : Nat) (f0 : Nat → ByteArray) (w : World) (hr : lgRow w A n f0) :
    Calls Try.prog 41 #[.slice A n c, .func (.func 42) #[] #[]] w fun e w' => e = .returned (.bool (decide (0 ≤ lgIdx n f0))) ∧ Below w.heap.size w w' := by
  have HR := Aside0.mk hr
  clear hr
  go_enter Try.func41, Try.ntmps41
  go_wp2_with (first | (go_at_call 50; fail))
  refine (lg_index A n c f0 _ HR.out).mono ?_
  rintro e w1 ⟨rfl, hb⟩
  go_wp2
  go_ret
  exact ⟨rfl, hb⟩
/-- a row of such elements, read -/
def enRow (w : World) (A : Option Addr) (n : Nat) (f0 : Nat → ByteArray) (f1 : Nat → ByteArray) : Prop :=
  n ≤ 9223372036854775807 ∧ ∀ i, i < n → ∃ ad, A = some ad ∧ w.cell? (ad.add (i * 2)) = some (.string (f0 i)) ∧ w.cell? ⟨(ad.add (i * 2)).block, (ad.add (i * 2)).off + 1, none⟩ = some (.string (f1 i))
theorem enRow.below {w w1 : World} {A : Option Addr} {n : Nat} {f0 : Nat → ByteArray} {f1 : Nat → ByteArray} (h : enRow w A n f0 f1) (hb : Below w.heap.size w w1) : enRow w1 A n f0 f1 :=
  ⟨h.1, fun i hi => by
    obtain ⟨ad, e, h0, h1⟩ := h.2 i hi
    exact ⟨ad, e, pw_cell_below hb h0, pw_cell_below hb h1⟩⟩
def enAt (f0 : Nat → ByteArray) (f1 : Nat → ByteArray) (j : Nat) : Bool := enB (f0 j) (f1 j)
/-- the first element of which it holds -/
def enIdx (n : Nat) (f0 : Nat → ByteArray) (f1 : Nat → ByteArray) : Int := match (List.range n).find? (enAt f0 f1) with | some j => (j : Int) | none => -1
theorem enIdx_at {n : Nat} {f0 : Nat → ByteArray} {f1 : Nat → ByteArray} {j : Nat} (hj : j < n) (hb : enAt f0 f1 j = true) (hl : ∀ q, q < j → enAt f0 f1 q = false) : enIdx n f0 f1 = (j : Int) := by
  have h : (List.range n).find? (enAt f0 f1) = some j := List.find?_range_eq_some.mpr ⟨hb, List.mem_range.mpr hj, fun q hq => by rw [hl q hq]; rfl⟩
  rw [enIdx, h]
theorem enIdx_none {n : Nat} {f0 : Nat → ByteArray} {f1 : Nat → ByteArray} (hl : ∀ q, q < n → enAt f0 f1 q = false) : enIdx n f0 f1 = -1 := by
  have h : (List.range n).find? (enAt f0 f1) = none := List.find?_eq_none.mpr fun q hq => by rw [hl q (List.mem_range.mp hq)]; decide
  rw [enIdx, h]
set_option maxHeartbeats 8000000 in
set_option maxRecDepth 100000 in
theorem en_index (A : Option Addr) (n c : Nat) (f0 : Nat → ByteArray) (f1 : Nat → ByteArray) (w : World) (hr : enRow w A n f0 f1) :
    Calls Try.prog 46 #[.slice A n c, .func (.func 31) #[] #[]] w fun e w' => e = .returned (.int .i64 (enIdx n f0 f1)) ∧ Below w.heap.size w w' := by
  have hu43 := Try.underlying43
  have HB := Aside0.mk (Below.refl w.heap.size w)
  have HR := Aside0.mk hr
  have hn := hr.1
  clear hr
  go_enter Try.func46, Try.ntmps46
  go_wp2
  go_loopw [8] (fun i w' => ∃ j : Nat, j ≤ n ∧ i = .int .i64 (j : Int) ∧ (∀ q, q < j → enAt f0 f1 q = false) ∧ Below w.heap.size w w') (fun i _ => n - (intOf i).toNat)
  case atStart => exact ⟨0, Nat.zero_le _, rfl, fun q hq => absurd hq (Nat.not_lt_zero q), HB.out⟩
  case round =>
    clear HB
    obtain ⟨j, hj, rfl, hl, hB⟩ := hrel
    have HL := Aside0.mk hl
    have HB := Aside0.mk hB
    clear hl hB
    by_cases hlt : j < n
    · obtain ⟨ad, hA, h0, h1⟩ := (HR.out.below HB.out).2 j hlt
      have q0 : decide ((j : Int) < (n : Int)) = true := decide_eq_true (by omega)
      have q0n : decide (j < n) = true := decide_eq_true hlt
      have q2 : (0 : Int) ≤ j := by omega
      have q3 : (j : Int) < (n : Int) := by omega
      have hwj : wrap64 ((j : Int) + 1) = (j : Int) + 1 := by unfold wrap64; omega
      subst hA
      obtain ⟨b, hb⟩ : ∃ b, enB (f0 j) (f1 j) = b := ⟨_, rfl⟩
      have HBB := Aside0.mk hb
      clear hb
      go_wp2_with (first | (go_at_call 31; fail))
      refine (en_lit _ _ _).mono ?_
      rintro e w1 ⟨rfl, hb⟩
      have HB1 := Aside0.mk (below_step HB.out hb)
      clear HB hb h0 h1
      rw [HBB.out]
      cases b with
      | true =>
        have ei := enIdx_at (n := n) hlt HBB.out HL.out
        go_wp2
        go_ret
        exact ⟨by rw [ei]; rfl, HB1.out⟩
      | false =>
        go_wp2
        go_roundw
        case measure => exact measn hlt
        case rel => exact ⟨j + 1, hlt, by go_num, fun q hq => by rcases Nat.lt_succ_iff_lt_or_eq.mp hq with h | rfl; exact HL.out q h; exact HBB.out, HB1.out⟩
    · have q0 : decide ((j : Int) < (n : Int)) = false := decide_eq_false (by omega)
      have q0n : decide (j < n) = false := decide_eq_false hlt
      have ej : j = n := by omega
      have e1 := enIdx_none (n := n) (fun q hq => HL.out q (by omega))
      go_wp2
      go_ret
      exact ⟨by rw [e1]; rfl, HB.out⟩
set_option maxHeartbeats 8000000 in
set_option maxRecDepth 100000 in
theorem en_contains (A : Option Addr) (n c : Nat) (f0 : Nat → ByteArray) (f1 : Nat → ByteArray) (w : World) (hr : enRow w A n f0 f1) :
    Calls Try.prog 30 #[.slice A n c, .func (.func 31) #[] #[]] w fun e w' => e = .returned (.bool (decide (0 ≤ enIdx n f0 f1))) ∧ Below w.heap.size w w' := by
  have HR := Aside0.mk hr
  clear hr
  go_enter Try.func30, Try.ntmps30
  go_wp2_with (first | (go_at_call 46; fail))
  refine (en_index A n c f0 f1 _ HR.out).mono ?_
  rintro e w1 ⟨rfl, hb⟩
  go_wp2
  go_ret
  exact ⟨rfl, hb⟩
/-- a row of such elements, read -/
def kdRow (w : World) (A : Option Addr) (n : Nat) (f0 : Nat → ByteArray) (f1 : Nat → Int) (f2 : Nat → ByteArray) : Prop :=
  n ≤ 9223372036854775807 ∧ ∀ i, i < n → ∃ ad, A = some ad ∧ w.cell? (ad.add (i * 3)) = some (.string (f0 i)) ∧ w.cell? ⟨(ad.add (i * 3)).block, (ad.add (i * 3)).off + 1, none⟩ = some (.int .i64 (f1 i)) ∧ w.cell? ⟨(ad.add (i * 3)).block, (ad.add (i * 3)).off + 2, none⟩ = some (.string (f2 i))
theorem kdRow.below {w w1 : World} {A : Option Addr} {n : Nat} {f0 : Nat → ByteArray} {f1 : Nat → Int} {f2 : Nat → ByteArray} (h : kdRow w A n f0 f1 f2) (hb : Below w.heap.size w w1) : kdRow w1 A n f0 f1 f2 :=
  ⟨h.1, fun i hi => by
    obtain ⟨ad, e, h0, h1, h2⟩ := h.2 i hi
    exact ⟨ad, e, pw_cell_below hb h0, pw_cell_below hb h1, pw_cell_below hb h2⟩⟩
def kdAt (f0 : Nat → ByteArray) (f1 : Nat → Int) (f2 : Nat → ByteArray) (j : Nat) : Bool := kdB (f0 j) (f1 j) (f2 j)
/-- the first element of which it holds -/
def kdIdx (n : Nat) (f0 : Nat → ByteArray) (f1 : Nat → Int) (f2 : Nat → ByteArray) : Int := match (List.range n).find? (kdAt f0 f1 f2) with | some j => (j : Int) | none => -1
theorem kdIdx_at {n : Nat} {f0 : Nat → ByteArray} {f1 : Nat → Int} {f2 : Nat → ByteArray} {j : Nat} (hj : j < n) (hb : kdAt f0 f1 f2 j = true) (hl : ∀ q, q < j → kdAt f0 f1 f2 q = false) : kdIdx n f0 f1 f2 = (j : Int) := by
  have h : (List.range n).find? (kdAt f0 f1 f2) = some j := List.find?_range_eq_some.mpr ⟨hb, List.mem_range.mpr hj, fun q hq => by rw [hl q hq]; rfl⟩
  rw [kdIdx, h]
theorem kdIdx_none {n : Nat} {f0 : Nat → ByteArray} {f1 : Nat → Int} {f2 : Nat → ByteArray} (hl : ∀ q, q < n → kdAt f0 f1 f2 q = false) : kdIdx n f0 f1 f2 = -1 := by
  have h : (List.range n).find? (kdAt f0 f1 f2) = none := List.find?_eq_none.mpr fun q hq => by rw [hl q (List.mem_range.mp hq)]; decide
  rw [kdIdx, h]
set_option maxHeartbeats 8000000 in
set_option maxRecDepth 100000 in
theorem kd_index (A : Option Addr) (n c : Nat) (f0 : Nat → ByteArray) (f1 : Nat → Int) (f2 : Nat → ByteArray) (w : World) (hr : kdRow w A n f0 f1 f2) :
    Calls Try.prog 47 #[.slice A n c, .func (.func 33) #[] #[]] w fun e w' => e = .returned (.int .i64 (kdIdx n f0 f1 f2)) ∧ Below w.heap.size w w' := by
  have hu41 := Try.underlying41
  have hu39 := Try.underlying39
  have HB := Aside0.mk (Below.refl w.heap.size w)
  have HR := Aside0.mk hr
  have hn := hr.1
  clear hr
  go_enter Try.func47, Try.ntmps47
  go_wp2
  go_loopw [8] (fun i w' => ∃ j : Nat, j ≤ n ∧ i = .int .i64 (j : Int) ∧ (∀ q, q < j → kdAt f0 f1 f2 q = false) ∧ Below w.heap.size w w') (fun i _ => n - (intOf i).toNat)
  case atStart => exact ⟨0, Nat.zero_le _, rfl, fun q hq => absurd hq (Nat.not_lt_zero q), HB.out⟩
  case round =>
    clear HB
    obtain ⟨j, hj, rfl, hl, hB⟩ := hrel
    have HL := Aside0.mk hl
    have HB := Aside0.mk hB
    clear hl hB
    by_cases hlt : j < n
    · obtain ⟨ad, hA, h0, h1, h2⟩ := (HR.out.below HB.out).2 j hlt
      have q0 : decide ((j : Int) < (n : Int)) = true := decide_eq_true (by omega)
      have q0n : decide (j < n) = true := decide_eq_true hlt
      have q2 : (0 : Int) ≤ j := by omega
      have q3 : (j : Int) < (n : Int) := by omega
      have hwj : wrap64 ((j : Int) + 1) = (j : Int) + 1 := by unfold wrap64; omega
      subst hA
      obtain ⟨b, hb⟩ : ∃ b, kdB (f0 j) (f1 j) (f2 j) = b := ⟨_, rfl⟩
      have HBB := Aside0.mk hb
      clear hb
      go_wp2_with (first | (go_at_call 33; fail))
      refine (kd_lit _ _ _ _).mono ?_
      rintro e w1 ⟨rfl, hb⟩
      have HB1 := Aside0.mk (below_step HB.out hb)
      clear HB hb h0 h1 h2
      rw [HBB.out]
      cases b with
      | true =>
        have ei := kdIdx_at (n := n) hlt HBB.out HL.out
        go_wp2
        go_ret
        exact ⟨by rw [ei]; rfl, HB1.out⟩
      | false =>
        go_wp2
        go_roundw
        case measure => exact measn hlt
        case rel => exact ⟨j + 1, hlt, by go_num, fun q hq => by rcases Nat.lt_succ_iff_lt_or_eq.mp hq with h | rfl; exact HL.out q h; exact HBB.out, HB1.out⟩
    · have q0 : decide ((j : Int) < (n : Int)) = false := decide_eq_false (by omega)
      have q0n : decide (j < n) = false := decide_eq_false hlt
      have ej : j = n := by omega
      have e1 := kdIdx_none (n := n) (fun q hq => HL.out q (by omega))
      go_wp2
      go_ret
      exact ⟨by rw [e1]; rfl, HB.out⟩
set_option maxHeartbeats 8000000 in
set_option maxRecDepth 100000 in
theorem kd_contains (A : Option Addr) (n c : Nat) (f0 : Nat → ByteArray) (f1 : Nat → Int) (f2 : Nat → ByteArray) (w : World) (hr : kdRow w A n f0 f1 f2) :
    Calls Try.prog 32 #[.slice A n c, .func (.func 33) #[] #[]] w fun e w' => e = .returned (.bool (decide (0 ≤ kdIdx n f0 f1 f2))) ∧ Below w.heap.size w w' := by
  have HR := Aside0.mk hr
  clear hr
  go_enter Try.func32, Try.ntmps32
  go_wp2_with (first | (go_at_call 47; fail))
  refine (kd_index A n c f0 f1 f2 _ HR.out).mono ?_
  rintro e w1 ⟨rfl, hb⟩
  go_wp2
  go_ret
  exact ⟨rfl, hb⟩
end Go.Proofs.Ytcdnmpajobhdcaa.Nd
