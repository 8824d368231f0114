/- A table of what is held, in memory; slices.Contains, lock.find, Held, walked. -/
import Derived.Test.YtonbonailghjjaaPLockMostx1
import Derived.Test.YtonbonailghjjaaXB
import Derived.Lib.SliceRun
namespace Go.Proofs.Ytonbonailghjjaa.Lk
open Go.RowKit Go.Proofs.YtonbonailghjjaaW.PrintWords Go.Proofs.YtonbonailghjjaaW.PrintLast Go.Proofs.YtonbonailghjjaaW.PrintMore Go.Proofs.Ytonbonailghjjaa.XB Go.Proofs.Ytonbonailghjjaa.PLockMost
attribute [local go_sem] max2_int min2_int max_two min_two max_three min_three max_four min_four
set_option linter.unusedVariables false
set_option linter.unusedSimpArgs false
/-- where a table lies: its cell; all from B on -/
structure At where
  g : Nat
  B : Nat
structure Tab (w : World) (p : At) (rv : Value) (l : List S51) : Prop where
  cells : w.heap[p.g]? = some (.cells #[rv] 49 (0, 0))
  row : Kd.R k51 51 w p.B (fun k => k ≠ p.g) rv l
  bg : p.B ≤ p.g
  small : l.length < 1000000
  wide : ∀ x ∈ l, x.f1.length < 1000
variable {w w' : World} {p : At} {rv : Value} {l : List S51}
/-- what lies elsewhere is as it was -/
def Far (g : Nat) (own : Option Nat) (w w' : World) : Prop := ∀ q, q < w.heap.size → q ≠ g → some q ≠ own → w'.heap[q]? = w.heap[q]?
theorem Tab.below (h : Tab w p rv l) (hb : Below w.heap.size w w') : Tab w' p rv l := ⟨blk_below h.cells hb, Kd.R_below h.row hb, h.bg, h.small, h.wide⟩
theorem Tab.base (h : Tab w p rv l) : p.B ≤ w.heap.size := Nat.le_trans h.bg (Nat.le_of_lt (blk_lt h.cells))
theorem idx_l (l : List Int) (a : Int) (hl : l.length < 4611686018427387904) : ∀ m i : Nat, i + m = l.length → ∃ r, slices_Index_int_int.l0 (m + 1) l a (l.length : Int) (i : Int) = some r ∧ (0 ≤ r ↔ a ∈ l.drop i)
  | 0, i, h => by
    refine ⟨-1, ?_, ?_⟩
    · show (if (i : Int) < (l.length : Int) then _ else some (-1)) = some (-1)
      rw [if_neg (by omega)]
    · rw [List.drop_of_length_le (by omega)]
      simp
  | m + 1, i, h => by
    have hi : i < l.length := by omega
    have e : l.drop i = l[i] :: l.drop (i + 1) := List.drop_eq_getElem_cons hi
    have hr : rd l (i : Int) = l[i] := by simp [rd, List.getD_eq_getElem?_getD, List.getElem?_eq_getElem hi]
    obtain ⟨r, h1, h2⟩ := idx_l l a hl m (i + 1) (by omega)
    show ∃ r, (if (i : Int) < (l.length : Int) then (if (0 : Int) ≤ (i : Int) then (if (i : Int) < (l.length : Int) then (if a = rd l (i : Int) then some (i : Int) else slices_Index_int_int.l0 (m + 1) l a (l.length : Int) (wrap64 ((i : Int) + 1))) else none) else none) else some (-1)) = some r ∧ _
    rw [if_pos (by omega), if_pos (by omega), if_pos (by omega), hr, e, w64 (by omega) (by omega)]
    by_cases c : a = l[i]
    · rw [if_pos c]
      exact ⟨_, rfl, ⟨fun _ => by rw [c]; exact List.mem_cons_self, fun _ => by omega⟩⟩
    · rw [if_neg c]
      refine ⟨r, h1, h2.trans ⟨fun hm => List.mem_cons_of_mem _ hm, fun hm => ?_⟩⟩
      rcases List.mem_cons.mp hm with e | hm
      · exact absurd e c
      · exact hm
/-- is it in there? -/
def cont (l : List Int) (a : Int) : Bool := decide (a ∈ l)
theorem contains_calls (A : Option Addr) (c : Nat) (l : List Int) (a : Int) (w : World) (h : Kd.C (Kd.int .i64) w A l.length l) (hc : l.length ≤ c) (hl : l.length < 1000000) :
    Calls Try.prog 13 #[.slice A l.length c, .int .i64 a] w fun e w' => e = .returned (.bool (cont l a)) ∧ Below w.heap.size w w' := by
  obtain ⟨r, h1, h2⟩ := idx_l l a (by omega) l.length 0 (by omega)
  have e : slices_Contains_int_int.f (l.length + 1) l a = some (cont l a) := by
    unfold slices_Contains_int_int.f slices_Index_int_int.f
    have h1' : slices_Index_int_int.l0 (l.length + 1) l a (l.length : Int) 0 = some r := h1
    rw [h1']
    show some (decide (r ≥ 0)) = some (cont l a)
    rw [List.drop_zero] at h2
    congr 1
    exact decide_eq_decide.mpr h2
  refine (slices_Contains_int_int.calls (l.length + 1) A c l a (cont l a) w h hc e).mono ?_
  rintro e w' ⟨rfl, nd, rfl⟩
  exact ⟨rfl, pw_below_drewN (Below.refl _ _) nd⟩
set_option maxHeartbeats 8000000 in
set_option maxRecDepth 100000 in
theorem lit_calls (what : ByteArray) (q : Addr) (f0 : ByteArray) (A : Option Addr) (n c : Nat) (f2 : Int) (w : World) (hq : w.cell? q = some (.string what)) :
    Calls Try.prog 26 #[.agg #[.string f0, .slice A n c, .int .i64 f2], .pointer (some q)] w fun e w' => e = .returned (.bool (f0.toList == what.toList)) ∧ Below w.heap.size w w' := by
  have hn := heap_alloc_new w (.cells #[.string f0, .slice A n c, .int .i64 f2] 51)
  have h0 : (w.alloc (.cells #[.string f0, .slice A n c, .int .i64 f2] 51)).cell? ⟨w.heap.size, 0, none⟩ = some (.string f0) := blk_cell hn 0
  have h1 : (w.alloc (.cells #[.string f0, .slice A n c, .int .i64 f2] 51)).cell? q = some (.string what) := pw_cell_below (below_alloc (Below.refl _ _) _) hq
  have HB := Aside0.mk (below_alloc (Below.refl w.heap.size w) (.cells #[.string f0, .slice A n c, .int .i64 f2] 51))
  clear hn
  go_enter Try.func26, Try.ntmps26
  go_wp2
  go_ret
  exact ⟨rfl, HB.out⟩
/-- a thing of this name -/
def isB (what : ByteArray) (x : S51) : Bool := x.f0.toList == what.toList
def idx (what : ByteArray) (l : List S51) : Int := match (List.range l.length).find? (fun (j : Nat) => isB what (rd_T51 l (j : Int))) with | some j => (j : Int) | none => -1
theorem idx_at {what : ByteArray} {l : List S51} {j : Nat} (hj : j < l.length) (hb : isB what (rd_T51 l (j : Int)) = true) (hl : ∀ q, q < j → isB what (rd_T51 l ((q : Nat) : Int)) = false) : idx what l = (j : Int) := by
  have h : (List.range l.length).find? (fun (j : Nat) => isB what (rd_T51 l (j : Int))) = some j := List.find?_range_eq_some.mpr ⟨hb, List.mem_range.mpr hj, fun q hq => by rw [hl q hq]; rfl⟩
  rw [idx, h]
theorem idx_none {what : ByteArray} {l : List S51} (hl : ∀ q, q < l.length → isB what (rd_T51 l ((q : Nat) : Int)) = false) : idx what l = -1 := by
  have h : (List.range l.length).find? (fun (j : Nat) => isB what (rd_T51 l (j : Int))) = none := List.find?_eq_none.mpr fun q hq => by rw [hl q (List.mem_range.mp hq)]; decide
  rw [idx, h]
theorem measn {j n : Nat} (h : j < n) : n - ((j : Int) + 1).toNat < n - ((j : Int)).toNat := by omega
set_option maxHeartbeats 8000000 in
set_option maxRecDepth 100000 in
theorem index_calls (what : ByteArray) (q : Addr) (A : Option Addr) (c : Nat) (l : List S51) (w : World) (hr : Kd.C k51 w A l.length l) (hn : l.length < 1000000) (hq : w.cell? q = some (.string what)) (lq : q.block < w.heap.size) :
    Calls Try.prog 25 #[.slice A l.length c, .func (.func 26) #[] #[.pointer (some q)]] w fun e w' => e = .returned (.int .i64 (idx what l)) ∧ Below w.heap.size w w' := by
  have HB := Aside0.mk (Below.refl w.heap.size w)
  have HR := Aside0.mk hr
  have HQ := Aside0.mk hq
  have LQ := Aside0.mk lq
  clear hr hq lq
  go_enter Try.func25, Try.ntmps25
  go_wp2
  go_loopw [8] (fun i w' => ∃ j : Nat, j ≤ l.length ∧ i = .int .i64 (j : Int) ∧ (∀ q, q < j → isB what (rd_T51 l ((q : Nat) : Int)) = false) ∧ Below w.heap.size w w') (fun i _ => l.length - (intOf i).toNat)
  case atStart => exact ⟨0, Nat.zero_le _, rfl, fun q hq => absurd hq (Nat.not_lt_zero q), HB.out⟩
  case round =>
    clear HB
    obtain ⟨j, hj, rfl, hl, hB⟩ := hrel
    have HL := Aside0.mk hl
    have HB := Aside0.mk hB
    clear hl hB
    by_cases hlt : j < l.length
    · have q0 : decide ((j : Int) < (l.length : Int)) = true := decide_eq_true (by omega)
      have q0n : decide (j < l.length) = true := decide_eq_true hlt
      have q2 : (0 : Int) ≤ j := by omega
      have q3 : (j : Int) < (l.length : Int) := by omega
      obtain ⟨ad, A1, c1, hA, h0, h1, h2, _, _⟩ := at_T51 (Kd.C_below HR.out HB.out) (j : Int) q2 q3
      rw [Int.toNat_natCast] at h0 h1 h2
      subst hA
      obtain ⟨bb, hb⟩ : ∃ bb, isB what (rd_T51 l (j : Int)) = bb := ⟨_, rfl⟩
      have HBB := Aside0.mk hb
      have HBC := Aside0.mk (show ((rd_T51 l (j : Int)).f0.toList == what.toList) = bb from hb)
      clear hb
      go_wp2_with (first | (go_at_call 26; fail))
      refine (lit_calls what q _ _ _ _ _ _ (pw_cell_below HB.out HQ.out)).mono ?_
      rw [HBC.out]
      rintro e w1 ⟨rfl, hb⟩
      have HB1 := Aside0.mk (below_step HB.out hb)
      clear HB hb h0 h1 h2
      cases bb with
      | true =>
        have ei := Aside0.mk (idx_at hlt HBB.out HL.out)
        go_wp2
        go_ret
        exact ⟨by rw [ei.out]; rfl, HB1.out⟩
      | false =>
        go_wp2
        first
        | exact ⟨⟨j + 1, hlt, rfl, fun q hq => (by rcases Nat.lt_succ_iff_lt_or_eq.mp hq with h | rfl; exact HL.out q h; exact HBB.out), HB1.out⟩, measn hlt⟩
        | (go_roundw
           case measure => exact measn hlt
           case rel => exact ⟨j + 1, hlt, by go_num, fun q hq => by rcases Nat.lt_succ_iff_lt_or_eq.mp hq with h | rfl; exact HL.out q h; exact HBB.out, HB1.out⟩)
    · have q0 : decide ((j : Int) < (l.length : Int)) = false := decide_eq_false (by omega)
      have q0n : decide (j < l.length) = false := decide_eq_false hlt
      have e1 := Aside0.mk (idx_none (what := what) (l := l) (fun q hq => HL.out q (by omega)))
      go_wp2
      go_ret
      exact ⟨by rw [e1.out]; rfl, HB.out⟩
set_option maxHeartbeats 8000000 in
set_option maxRecDepth 100000 in
theorem find_nil (what : ByteArray) (w : World) : Calls Try.prog 18 #[.pointer none, .string what] w fun e w' => e = .returned (.int .i64 (-1)) ∧ Below w.heap.size w w' := by
  go_enter Try.func18, Try.ntmps18
  go_wp2
  go_ret
  exact ⟨rfl, below_alloc (Below.refl _ _) _⟩
set_option maxHeartbeats 8000000 in
set_option maxRecDepth 100000 in
theorem find_calls (h : Tab w p rv l) (what : ByteArray) : Calls Try.prog 18 #[.pointer (some ⟨p.g, 0, none⟩), .string what] w fun e w' => e = .returned (.int .i64 (idx what l)) ∧ Below w.heap.size w w' := by
  obtain ⟨A, c, hrv, _, hC⟩ := Kd.R_reads h.row
  subst hrv
  have hn := heap_alloc_new w (.cells #[.string what] 9)
  have h0 : (w.alloc (.cells #[.string what] 9)).cell? ⟨w.heap.size, 0, none⟩ = some (.string what) := blk_cell hn 0
  have h1 : (w.alloc (.cells #[.string what] 9)).cell? ⟨p.g, 0, none⟩ = some (.slice A l.length c) := blk_cell (blk_alloc h.cells _) 0
  have HB := Aside0.mk (below_alloc (Below.refl w.heap.size w) (.cells #[.string what] 9))
  have HC := Aside0.mk (Kd.C_below hC HB.out)
  have HS := Aside0.mk h.small
  have LQ := Aside0.mk (show w.heap.size < (w.alloc (.cells #[.string what] 9)).heap.size by rw [World.size_alloc]; omega)
  clear hn hC h
  go_enter Try.func18, Try.ntmps18
  go_wp2_with (first | (go_at_call 25; fail))
  refine (index_calls what ⟨w.heap.size, 0, none⟩ A c l _ HC.out HS.out h0 LQ.out).mono ?_
  rintro e w1 ⟨rfl, hb⟩
  have HB1 := Aside0.mk (below_step HB.out hb)
  clear hb
  go_wp2
  go_ret
  exact ⟨rfl, HB1.out⟩
end Go.Proofs.Ytonbonailghjjaa.Lk
