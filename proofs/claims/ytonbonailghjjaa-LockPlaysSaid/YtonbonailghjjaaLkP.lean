/- Take and Free, by what the matrix says. -/
import Derived.Test.YtonbonailghjjaaLkO
namespace Go.Proofs.Ytonbonailghjjaa.Lk
open Go.RowKit Go.Proofs.YtonbonailghjjaaW.PrintWords Go.Proofs.YtonbonailghjjaaW.PrintLast Go.Proofs.YtonbonailghjjaaW.PrintMore Go.Proofs.Ytonbonailghjjaa.XB Go.Proofs.Ytonbonailghjjaa.PLockMost
attribute [local go_sem] max2_int min2_int max_two min_two max_three min_three max_four min_four
set_option linter.unusedVariables false
set_option linter.unusedSimpArgs false
variable {nm : Nat → ByteArray} {l : List S51} {m : Nat → Nat → Int} {w w' : World} {p : At} {rv : Value}
set_option maxHeartbeats 2000000 in
set_option maxRecDepth 100000 in
theorem take_out (g : Nat) (who : Int) (h : who < 0 ∨ 16 ≤ who) (what : ByteArray) (alone : Bool) (w : World) :
    Calls Try.prog 8 #[.pointer (some ⟨g, 0, none⟩), .int .i64 who, .agg #[.string what, .bool alone]] w fun e w' => e = .returned (.tuple #[.slice none 0 0, .int .i64 1]) ∧ Below w.heap.size w w' := by
  have HB := Aside0.mk (below_alloc (Below.refl w.heap.size w) (.cells #[.string what, .bool alone] 38))
  have hn := heap_alloc_new w (.cells #[.string what, .bool alone] 38)
  have z0 : (w.alloc (.cells #[.string what, .bool alone] 38)).cell? ⟨w.heap.size, 0, none⟩ = some (.string what) := blk_cell hn 0
  clear hn
  by_cases c : who < 0
  · have d0 : decide (who < 0) = true := decide_eq_true c
    clear h
    go_enter Try.func8, Try.ntmps8
    go_wp2
    go_ret2
    exact ⟨rfl, HB.out⟩
  · have d0 : decide (who < 0) = false := decide_eq_false c
    have d1 : decide (16 ≤ who) = true := decide_eq_true (by omega)
    clear h
    go_enter Try.func8, Try.ntmps8
    go_wp2
    go_ret2
    exact ⟨rfl, HB.out⟩
/-- how the matrix stands behind a taking -/
def takeM (m : Nat → Nat → Int) (i k : Nat) (al : Bool) : Nat → Nat → Int := if wantM m (i : Int) k al 16 = [] then setM m i k (upd m i k al) else m
theorem Inv.small (hn : Names nm) (h : Inv nm l m) : l.length ≤ 6 ∧ ∀ i, i < 16 → held l (i : Nat) ≤ 6 := by
  have hf := h.fits hn
  exact ⟨hf.len ▸ things_le m 6, fun i hi => (hf.hel i hi) ▸ cnt_le m i 6⟩
theorem take_inv (h : Tab w p rv l) (hn : Names nm) (hI : Inv nm l m) (i k : Nat) (hi : i < 16) (hk : k < 6) (al : Bool) :
    Calls Try.prog 8 #[.pointer (some ⟨p.g, 0, none⟩), .int .i64 (i : Int), .agg #[.string (nm k), .bool al]] w fun e w' => ∃ A c, e = .returned (.tuple #[.slice A (wantM m (i : Int) k al 16).length c, .int .i64 0]) ∧ Kd.C (Kd.int .i64) w' A (wantM m (i : Int) k al 16).length (wantM m (i : Int) k al 16) ∧ (∃ l' rv', Tab w' p rv' l' ∧ Inv nm l' (takeM m i k al)) ∧ Below p.B w w' ∧ Far p.g rv.ownBlock w w' := by
  obtain ⟨hl, hd⟩ := hI.small hn
  have hd := hd i hi
  have hag := hI.agn hn (i : Int) k hk al
  by_cases hw : wantM m (i : Int) k al 16 = []
  · have hm : takeM m i k al = setM m i k (upd m i k al) := by unfold takeM; rw [if_pos hw]
    rw [hm]
    rw [hw] at hag ⊢
    rcases hI.find hn k hk with ⟨e, _⟩ | ⟨j, e, hj, f0, f1, fne, f2⟩
    · refine (take_new h (i : Int) (by omega) (by omega) (nm k) (hn.ne k hk) al hI.hh e (by omega) (by omega)).mono ?_
      rintro e1 w' ⟨rfl, ⟨rv', hT⟩, hb, hF⟩
      exact ⟨none, 0, rfl, ⟨rfl, by simp, fun h => absurd h (by decide)⟩, ⟨_, rv', hT, hI.new hn i k hi hk al e⟩, hb, hF⟩
    · refine (take_any h (i : Int) (by omega) (by omega) (nm k) (hn.ne k hk) al hI.hh j hj e _ rfl (by rw [f1]; exact fne) (by rw [f1]; exact Nat.lt_of_le_of_lt (holders_le m k 16) (by decide)) (by rw [f1]; exact (holders_rise m k 16).imp (fun h => by omega)) hag (by omega)).mono ?_
      rintro e1 w' ⟨rfl, ⟨rv', hT⟩, hb, hF⟩
      exact ⟨none, 0, rfl, ⟨rfl, by simp, fun h => absurd h (by decide)⟩, ⟨_, rv', hT, hI.any hn i k hi hk al j e hw⟩, hb, hF⟩
  · have hm : takeM m i k al = m := by unfold takeM; rw [if_neg hw]
    rw [hm]
    refine (take_against h (i : Int) (by omega) (by omega) (nm k) (hn.ne k hk) al hI.hh (by rw [hag]; exact hw)).mono ?_
    rw [hag]
    rintro e1 w' ⟨v, rfl, hR, hb⟩
    obtain ⟨A, c, rfl, _, hC⟩ := Kd.R_reads hR
    exact ⟨A, c, rfl, hC, ⟨l, rv, h.below hb, hI⟩, hb.mono h.base, fun q hq _ _ => hb.block q hq⟩
theorem free_inv (h : Tab w p rv l) (hn : Names nm) (hI : Inv nm l m) (i : Nat) (hi : i < 16) :
    Calls Try.prog 7 #[.pointer (some ⟨p.g, 0, none⟩), .int .i64 (i : Int)] w fun e w' => e = .returned (.int .i64 (cnt m i 6 : Nat)) ∧ (∃ l' rv', Tab w' p rv' l' ∧ Inv nm l' (zeroTo m i 6)) ∧ Below p.B w w' ∧ Far p.g rv.ownBlock w w' := by
  have hh := (hI.fits hn).hel i hi
  by_cases h0 : held l (i : Int) = 0
  · refine (free_none (i : Int) h h0).mono ?_
    rintro e w' ⟨rfl, hb⟩
    exact ⟨by rw [← hh, h0]; rfl, ⟨l, rv, h.below hb, hI.free0 hn i hi h0⟩, hb.mono h.base, fun q hq _ _ => hb.block q hq⟩
  · refine (free_calls h (i : Int) h0).mono ?_
    rintro e w' ⟨rfl, ⟨rv', hT⟩, hb, hF⟩
    exact ⟨by rw [hh], ⟨_, rv', hT, hI.free hn i hi⟩, hb, hF⟩
theorem free_out (h : Tab w p rv l) (hI : Inv nm l m) (who : Int) (ho : who < 0 ∨ 16 ≤ who) :
    Calls Try.prog 7 #[.pointer (some ⟨p.g, 0, none⟩), .int .i64 who] w fun e w' => e = .returned (.int .i64 0) ∧ Below w.heap.size w w' := by
  refine free_none who h ?_
  unfold held
  rw [List.length_eq_zero_iff, List.filter_eq_nil_iff]
  intro x hx hc
  obtain ⟨k, hk, _, e, _⟩ := hI.ent x hx
  have hm : who ∈ x.f1 := of_decide_eq_true hc
  rw [e, mem_holders] at hm
  obtain ⟨y, hy, e2, _⟩ := hm
  omega
/-- the matrix's cells, one written -/
theorem Mat.set {cs : Array Value} (h : Mat cs m) (i k : Nat) (hi : i < 16) (hk : k < 6) (v : Int) : Mat (cs.setIfInBounds (i * 6 + k) (.int .i64 v)) (setM m i k v) := by
  refine ⟨by rw [Array.size_setIfInBounds]; exact h.size, fun a b ha hb => ?_⟩
  rw [Array.getElem?_setIfInBounds]
  unfold setM
  by_cases c : a = i ∧ b = k
  · rw [if_pos c, if_pos (by rw [c.1, c.2]), if_pos (by rw [h.size]; omega)]
  · rw [if_neg c, if_neg (by intro e; exact c (by omega))]
    exact h.at_ a b ha hb
theorem zeroTo_succ (m : Nat → Nat → Int) (i j : Nat) : zeroTo m i (j + 1) = setM (zeroTo m i j) i j 0 := by
  funext a b
  show (if a = i ∧ b < j + 1 then 0 else m a b) = (if a = i ∧ b = j then 0 else (if a = i ∧ b < j then 0 else m a b))
  by_cases c : a = i ∧ b < j + 1
  · rw [if_pos c]
    by_cases d : a = i ∧ b = j
    · rw [if_pos d]
    · rw [if_neg d, if_pos ⟨c.1, by have : b ≠ j := fun e => d ⟨c.1, e⟩; omega⟩]
  · rw [if_neg c, if_neg (fun h => c ⟨h.1, by omega⟩), if_neg (fun h => c ⟨h.1, by omega⟩)]
theorem zeroTo_zero (m : Nat → Nat → Int) (i : Nat) : zeroTo m i 0 = m := by
  funext a b
  unfold zeroTo
  rw [if_neg (fun h => Nat.not_lt_zero _ h.2)]
theorem zeroTo_at (m : Nat → Nat → Int) (i j : Nat) : zeroTo m i j i j = m i j := by
  unfold zeroTo
  rw [if_neg (fun h => Nat.lt_irrefl _ h.2)]
/-- those that are against one, one by one -/
theorem wantM_succ (m : Nat → Nat → Int) (i : Int) (k n : Nat) (al : Bool) : wantM m i k al (n + 1) = wantM m i k al n ++ (if (m n k ≠ 0 ∧ (n : Int) ≠ i) ∧ (al || any2 m k 16) = true then [(n : Int)] else []) := by
  unfold wantM
  by_cases c : (al || any2 m k 16) = true
  · rw [if_pos c, if_pos c, holders_succ]
    unfold but
    rw [List.filter_append]
    congr 1
    by_cases h : m n k = 0
    · rw [if_pos h, if_neg (fun d => d.1.1 h)]; rfl
    · rw [if_neg h]
      by_cases d : (n : Int) = i
      · rw [if_neg (fun f => f.1.2 d), List.filter_cons_of_neg (by simp [d])]; rfl
      · rw [if_pos ⟨⟨h, d⟩, c⟩, List.filter_cons_of_pos (by simp [d])]; rfl
  · rw [if_neg c, if_neg c, if_neg (fun d => c d.2)]; rfl
theorem wantM_zero (m : Nat → Nat → Int) (i : Int) (k : Nat) (al : Bool) : wantM m i k al 0 = [] := by
  unfold wantM
  split <;> rfl
theorem wantM_le (m : Nat → Nat → Int) (i : Int) (k n : Nat) (al : Bool) : (wantM m i k al n).length ≤ n := by
  unfold wantM
  split
  · exact Nat.le_trans (but_le _ _) (holders_le m k n)
  · exact Nat.zero_le _
end Go.Proofs.Ytonbonailghjjaa.Lk
