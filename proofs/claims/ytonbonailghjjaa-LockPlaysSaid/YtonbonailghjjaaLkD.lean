/- Who keeps one from a thing (against), walked. -/
import Derived.Test.YtonbonailghjjaaLkC
import Derived.Deep.RegionHeld3
namespace Go.Proofs.Ytonbonailghjjaa.Lk
open Go.RowKit Go.Proofs.YtonbonailghjjaaW.PrintWords Go.Proofs.YtonbonailghjjaaW.PrintLast Go.Proofs.YtonbonailghjjaaW.PrintMore Go.Proofs.Ytonbonailghjjaa.XB Go.Proofs.Ytonbonailghjjaa.PLockMost
attribute [local go_sem] max2_int min2_int max_two min_two max_three min_three max_four min_four
set_option linter.unusedVariables false
set_option linter.unusedSimpArgs false
variable {w w' : World} {p : At} {rv : Value} {l : List S51}
theorem cell_lt {W : World} {a : Addr} {v : Value} (h : W.cell? a = some v) : a.block < W.heap.size := by
  rcases Nat.lt_or_ge a.block W.heap.size with h1 | h1
  · exact h1
  · unfold World.cell? at h
    rw [Array.getElem?_eq_none h1] at h
    simp at h
/-- how a thing is needed -/
def howI (b : Bool) : Int := if b then 1 else 0
theorem how_calls (what : ByteArray) (alone : Bool) (W : World) : Calls Try.prog 19 #[.agg #[.string what, .bool alone]] W fun e w' => e = .returned (.int .i64 (howI alone)) ∧ Below W.heap.size W w' :=
  lock_how.calls what alone (howI alone) W (by cases alone <;> rfl)
theorem idx_cases (what : ByteArray) (l : List S51) : (idx what l = -1 ∧ ∀ q, q < l.length → isB what (rd_T51 l ((q : Nat) : Int)) = false) ∨ ∃ j : Nat, idx what l = (j : Int) ∧ j < l.length ∧ isB what (rd_T51 l (j : Int)) = true ∧ ∀ q, q < j → isB what (rd_T51 l ((q : Nat) : Int)) = false := by
  unfold idx
  cases h : (List.range l.length).find? (fun (j : Nat) => isB what (rd_T51 l (j : Int))) with
  | none => exact .inl ⟨rfl, fun q hq => by have := List.find?_eq_none.mp h q (List.mem_range.mpr hq); simpa using this⟩
  | some j =>
    obtain ⟨h1, h2, h3⟩ := List.find?_range_eq_some.mp h
    exact .inr ⟨j, rfl, List.mem_range.mp h2, h1, fun q hq => by have := h3 q hq; simpa using this⟩
/-- those that keep one from a thing -/
def agn (l : List S51) (who : Int) (what : ByteArray) (alone : Bool) : List Int :=
  if idx what l = -1 then [] else if (rd_T51 l (idx what l)).f2 = 0 ∧ alone = false then [] else but who (rd_T51 l (idx what l)).f1
set_option maxHeartbeats 2000000 in
set_option maxRecDepth 100000 in
theorem against_calls (h : Tab w p rv l) (who : Int) (what : ByteArray) (alone : Bool) (hh : ∀ x ∈ l, x.f2 = 0 ∨ x.f2 = 1) :
    Calls Try.prog 17 #[.pointer (some ⟨p.g, 0, none⟩), .int .i64 who, .agg #[.string what, .bool alone]] w fun e w' => ∃ v, e = .returned v ∧ Kd.R (Kd.int .i64) 3 w' w.heap.size (fun _ => True) v (agn l who what alone) ∧ Below w.heap.size w w' := by
  obtain ⟨A, c, hrv, _, _⟩ := Kd.R_reads h.row
  subst hrv
  have HH := Aside0.mk hh
  have b0 := Aside0.mk (below_alloc (below_alloc (Below.refl w.heap.size w) (.cells #[.int .i64 who] 3)) (.cells #[.string what, .bool alone] 38))
  have H2 := Aside0.mk (h.below b0.out)
  have n1 := blk_alloc (heap_alloc_new w (.cells #[.int .i64 who] 3)) (.cells #[.string what, .bool alone] 38)
  have n2 := heap_alloc_new (w.alloc (.cells #[.int .i64 who] 3)) (.cells #[.string what, .bool alone] 38)
  rw [World.size_alloc] at n2
  have z0 : ((w.alloc (.cells #[.int .i64 who] 3)).alloc (.cells #[.string what, .bool alone] 38)).cell? ⟨w.heap.size + 1, 0, none⟩ = some (.string what) := blk_cell n2 0
  have N1 := Aside0.mk n1
  have N2 := Aside0.mk n2
  clear h hh n1 n2
  go_enter Try.func17, Try.ntmps17
  go_wp2_with (first | (go_at_call 18; fail))
  refine (find_calls H2.out what).mono ?_
  rintro e w3 ⟨rfl, hb⟩
  have H3 := Aside0.mk (H2.out.below hb)
  have B3 := Aside0.mk (below_step b0.out hb)
  have M1 := blk_below N1.out hb
  have M2 := blk_below N2.out hb
  clear hb b0 H2 N1 N2 z0
  have AG := Aside0.mk (show agn l who what alone = if idx what l = -1 then [] else if (rd_T51 l (idx what l)).f2 = 0 ∧ alone = false then [] else but who (rd_T51 l (idx what l)).f1 from rfl)
  rcases idx_cases what l with ⟨hi, _⟩ | ⟨k, hi, hk, _, _⟩
  · rw [hi] at AG ⊢
    rw [if_pos rfl] at AG
    clear hi M1 M2
    go_wp2
    go_region
    go_wp2
    go_ret
    exact ⟨_, rfl, by rw [AG.out]; exact Kd.R_nil _ _ _ _ _, by (with_reducible repeat (first | exact B3.out | apply below_drew1))⟩
  · rw [hi] at AG ⊢
    rw [if_neg (by omega)] at AG
    clear hi
    have k0 : (0 : Int) ≤ (k : Int) := by omega
    have k1 : (k : Int) < (l.length : Int) := by omega
    have k2 : ¬ (k : Int) < 0 := by omega
    have k3 : decide ((k : Int) < 0) = false := decide_eq_false k2
    have hmem : rd_T51 l (k : Int) ∈ l := by
      have e : rd_T51 l (k : Int) = l[k] := by simp [rd_T51, List.getD_eq_getElem?_getD, List.getElem?_eq_getElem hk]
      rw [e]; exact List.getElem_mem hk
    obtain ⟨A', c', hrv', _, hC⟩ := Kd.R_reads H3.out.row
    injection hrv' with e1 e2 e3
    subst e1 e3
    obtain ⟨ad, A1, c1, hA, y0, y1, y2, hlen, hC1⟩ := at_T51 hC (k : Int) k0 k1
    rw [Int.toNat_natCast] at y0 y1 y2
    subst hA
    obtain ⟨x, hx⟩ : ∃ x, rd_T51 l (k : Int) = x := ⟨_, rfl⟩
    rw [hx] at y0 y1 y2 hlen hC1 hmem AG
    have cg : w3.cell? ⟨p.g, 0, none⟩ = some (.slice (some ad) l.length c) := blk_cell H3.out.cells 0
    have m0 : w3.cell? ⟨w.heap.size + 1, 0, none⟩ = some (.string what) := blk_cell M2 0
    have m1 : w3.cell? ⟨w.heap.size + 1, 1, none⟩ = some (.bool alone) := blk_cell M2 1
    have q1 : w3.cell? ⟨w.heap.size, 0, none⟩ = some (.int .i64 who) := blk_cell M1 0
    have HC1 := Aside0.mk hC1
    have HLE := Aside0.mk hlen
    have HW := Aside0.mk (H3.out.wide x hmem)
    have hx2 := HH.out x hmem
    clear hC hlen hC1 hmem hx M1 M2
    have hw0 : howI false = 0 := rfl
    have hw1 : howI true = 1 := rfl
    have B4 := Aside0.mk (Below.refl w3.heap.size w3)
    have LT1 := Aside0.mk (show w.heap.size + 1 < w3.heap.size from cell_lt m0)
    cases alone with
    | false =>
      rcases hx2 with h2 | h2
      · rw [h2] at y2
        rw [if_pos ⟨h2, rfl⟩] at AG
        clear h2
        go_wp2
        go_region_held3 (fun w' => w'.cell? ⟨p.g, 0, none⟩ = some (.slice (some ad) l.length c) ∧ w'.cell? ⟨(ad.add (k * 3)).block, (ad.add (k * 3)).off + 2, none⟩ = some (.int .i64 0) ∧ w'.cell? ⟨w.heap.size + 1, 0, none⟩ = some (.string what) ∧ w'.cell? ⟨w.heap.size + 1, 1, none⟩ = some (.bool false))
          (first | exact ⟨cg, y2, m0, m1⟩ | exact ⟨pw_cell_below hb cg, pw_cell_below hb y2, pw_cell_below hb m0, pw_cell_below hb m1⟩ | go_keep)
          (first
            | (go_at_call 19; with_reducible refine (how_calls what false _).mono ?_; rintro e w4 ⟨rfl, hb⟩))
        have BW := Aside0.mk (below_step (below_drew1 B3.out) hb)
        clear hb
        go_wp2
        go_ret
        exact ⟨_, rfl, by rw [AG.out]; exact Kd.R_nil _ _ _ _ _, BW.out⟩
      · rw [h2] at y2
        rw [if_neg (by rw [h2]; decide)] at AG
        clear h2
        go_wp2
        go_region_held3 (fun w' => w'.cell? ⟨p.g, 0, none⟩ = some (.slice (some ad) l.length c) ∧ w'.cell? ⟨(ad.add (k * 3)).block, (ad.add (k * 3)).off + 2, none⟩ = some (.int .i64 1) ∧ w'.cell? ⟨w.heap.size + 1, 0, none⟩ = some (.string what) ∧ w'.cell? ⟨w.heap.size + 1, 1, none⟩ = some (.bool false))
          (first | exact ⟨cg, y2, m0, m1⟩ | exact ⟨pw_cell_below hb cg, pw_cell_below hb y2, pw_cell_below hb m0, pw_cell_below hb m1⟩ | go_keep)
          (first
            | (go_at_call 19; with_reducible refine (how_calls what false _).mono ?_; rintro e w4 ⟨rfl, hb⟩))
        have BW := Aside0.mk (below_step (below_drew1 B3.out) hb)
        have cg4 : w4.cell? ⟨p.g, 0, none⟩ = some (.slice (some ad) l.length c) := pw_cell_below hb cg
        have z1 : w4.cell? ⟨(ad.add (k * 3)).block, (ad.add (k * 3)).off + 1, none⟩ = some (.slice A1 x.f1.length c1) := pw_cell_below hb y1
        have HC4 := Aside0.mk (Kd.C_below (Kd.C_drew HC1.out) hb)
        have Q4 := Aside0.mk (show w4.cell? ⟨w.heap.size, 0, none⟩ = some (.int .i64 who) from pw_cell_below hb q1)
        have W4 := Aside0.mk (show w.heap.size + 1 < w4.heap.size from Nat.lt_of_lt_of_le LT1.out hb.size)
        clear hb y0 y1 y2 cg m0 m1 q1
        go_wp2_with (first | (go_at_call 15; fail))
        refine (clone_calls A1 c1 x.f1 w4 HC4.out (Nat.lt_trans HW.out (by decide))).mono ?_
        rintro e w5 ⟨v5, rfl, hR5, hb⟩
        have BW5 := Aside0.mk (below_step BW.out hb)
        have HR5 := Aside0.mk (Kd.R_lower (Kd.R_mono hR5 (fun _ _ => trivial)) BW.out.size)
        have Q5 := Aside0.mk (pw_cell_below hb Q4.out)
        have OB := Aside0.mk (show v5.ownBlock ≠ some w.heap.size from fun e => by
          have h1 := Kd.R_base hR5 _ e
          have := W4.out
          omega)
        have W5 := Aside0.mk (show w.heap.size < w5.heap.size from by have := W4.out; have := hb.size; omega)
        clear hb hR5
        go_wp2_with (first | (go_at_call 14; fail))
        refine (delete24_calls who ⟨w.heap.size, 0, none⟩ w.heap.size (fun _ => True) v5 x.f1 w5 HR5.out (Nat.lt_trans HW.out (by decide)) Q5.out W5.out OB.out (Nat.le_of_lt W5.out)).mono ?_
        rintro e w6 ⟨v6, rfl, hR6, hb6, _⟩
        have HR6 := Aside0.mk hR6
        have BW6 := Aside0.mk (BW5.out.trans hb6)
        clear hR6 hb6
        go_wp2
        go_ret
        exact ⟨v6, rfl, by rw [AG.out]; exact HR6.out, BW6.out⟩
    | true =>
      rw [if_neg (by rintro ⟨_, h⟩; cases h)] at AG
      rcases hx2 with h2 | h2
      · rw [h2] at y2
        clear h2
        go_wp2
        go_region_held3 (fun w' => w'.cell? ⟨p.g, 0, none⟩ = some (.slice (some ad) l.length c) ∧ w'.cell? ⟨(ad.add (k * 3)).block, (ad.add (k * 3)).off + 2, none⟩ = some (.int .i64 0) ∧ w'.cell? ⟨w.heap.size + 1, 0, none⟩ = some (.string what) ∧ w'.cell? ⟨w.heap.size + 1, 1, none⟩ = some (.bool true))
          (first | exact ⟨cg, y2, m0, m1⟩ | exact ⟨pw_cell_below hb cg, pw_cell_below hb y2, pw_cell_below hb m0, pw_cell_below hb m1⟩ | go_keep)
          (first
            | (go_at_call 19; with_reducible refine (how_calls what true _).mono ?_; rintro e w4 ⟨rfl, hb⟩))
        have BW := Aside0.mk (below_step (below_drew1 B3.out) hb)
        have cg4 : w4.cell? ⟨p.g, 0, none⟩ = some (.slice (some ad) l.length c) := pw_cell_below hb cg
        have z1 : w4.cell? ⟨(ad.add (k * 3)).block, (ad.add (k * 3)).off + 1, none⟩ = some (.slice A1 x.f1.length c1) := pw_cell_below hb y1
        have HC4 := Aside0.mk (Kd.C_below (Kd.C_drew HC1.out) hb)
        have Q4 := Aside0.mk (show w4.cell? ⟨w.heap.size, 0, none⟩ = some (.int .i64 who) from pw_cell_below hb q1)
        have W4 := Aside0.mk (show w.heap.size + 1 < w4.heap.size from Nat.lt_of_lt_of_le LT1.out hb.size)
        clear hb y0 y1 y2 cg m0 m1 q1
        go_wp2_with (first | (go_at_call 15; fail))
        refine (clone_calls A1 c1 x.f1 w4 HC4.out (Nat.lt_trans HW.out (by decide))).mono ?_
        rintro e w5 ⟨v5, rfl, hR5, hb⟩
        have BW5 := Aside0.mk (below_step BW.out hb)
        have HR5 := Aside0.mk (Kd.R_lower (Kd.R_mono hR5 (fun _ _ => trivial)) BW.out.size)
        have Q5 := Aside0.mk (pw_cell_below hb Q4.out)
        have OB := Aside0.mk (show v5.ownBlock ≠ some w.heap.size from fun e => by
          have h1 := Kd.R_base hR5 _ e
          have := W4.out
          omega)
        have W5 := Aside0.mk (show w.heap.size < w5.heap.size from by have := W4.out; have := hb.size; omega)
        clear hb hR5
        go_wp2_with (first | (go_at_call 14; fail))
        refine (delete24_calls who ⟨w.heap.size, 0, none⟩ w.heap.size (fun _ => True) v5 x.f1 w5 HR5.out (Nat.lt_trans HW.out (by decide)) Q5.out W5.out OB.out (Nat.le_of_lt W5.out)).mono ?_
        rintro e w6 ⟨v6, rfl, hR6, hb6, _⟩
        have HR6 := Aside0.mk hR6
        have BW6 := Aside0.mk (BW5.out.trans hb6)
        clear hR6 hb6
        go_wp2
        go_ret
        exact ⟨v6, rfl, by rw [AG.out]; exact HR6.out, BW6.out⟩
      · rw [h2] at y2
        clear h2
        go_wp2
        go_region_held3 (fun w' => w'.cell? ⟨p.g, 0, none⟩ = some (.slice (some ad) l.length c) ∧ w'.cell? ⟨(ad.add (k * 3)).block, (ad.add (k * 3)).off + 2, none⟩ = some (.int .i64 1) ∧ w'.cell? ⟨w.heap.size + 1, 0, none⟩ = some (.string what) ∧ w'.cell? ⟨w.heap.size + 1, 1, none⟩ = some (.bool true))
          (first | exact ⟨cg, y2, m0, m1⟩ | exact ⟨pw_cell_below hb cg, pw_cell_below hb y2, pw_cell_below hb m0, pw_cell_below hb m1⟩ | go_keep)
          (first
            | (go_at_call 19; with_reducible refine (how_calls what true _).mono ?_; rintro e w4 ⟨rfl, hb⟩))
        have BW := Aside0.mk (below_step (below_drew1 B3.out) hb)
        have cg4 : w4.cell? ⟨p.g, 0, none⟩ = some (.slice (some ad) l.length c) := pw_cell_below hb cg
        have z1 : w4.cell? ⟨(ad.add (k * 3)).block, (ad.add (k * 3)).off + 1, none⟩ = some (.slice A1 x.f1.length c1) := pw_cell_below hb y1
        have HC4 := Aside0.mk (Kd.C_below (Kd.C_drew HC1.out) hb)
        have Q4 := Aside0.mk (show w4.cell? ⟨w.heap.size, 0, none⟩ = some (.int .i64 who) from pw_cell_below hb q1)
        have W4 := Aside0.mk (show w.heap.size + 1 < w4.heap.size from Nat.lt_of_lt_of_le LT1.out hb.size)
        clear hb y0 y1 y2 cg m0 m1 q1
        go_wp2_with (first | (go_at_call 15; fail))
        refine (clone_calls A1 c1 x.f1 w4 HC4.out (Nat.lt_trans HW.out (by decide))).mono ?_
        rintro e w5 ⟨v5, rfl, hR5, hb⟩
        have BW5 := Aside0.mk (below_step BW.out hb)
        have HR5 := Aside0.mk (Kd.R_lower (Kd.R_mono hR5 (fun _ _ => trivial)) BW.out.size)
        have Q5 := Aside0.mk (pw_cell_below hb Q4.out)
        have OB := Aside0.mk (show v5.ownBlock ≠ some w.heap.size from fun e => by
          have h1 := Kd.R_base hR5 _ e
          have := W4.out
          omega)
        have W5 := Aside0.mk (show w.heap.size < w5.heap.size from by have := W4.out; have := hb.size; omega)
        clear hb hR5
        go_wp2_with (first | (go_at_call 14; fail))
        refine (delete24_calls who ⟨w.heap.size, 0, none⟩ w.heap.size (fun _ => True) v5 x.f1 w5 HR5.out (Nat.lt_trans HW.out (by decide)) Q5.out W5.out OB.out (Nat.le_of_lt W5.out)).mono ?_
        rintro e w6 ⟨v6, rfl, hR6, hb6, _⟩
        have HR6 := Aside0.mk hR6
        have BW6 := Aside0.mk (BW5.out.trans hb6)
        clear hR6 hb6
        go_wp2
        go_ret
        exact ⟨v6, rfl, by rw [AG.out]; exact HR6.out, BW6.out⟩
end Go.Proofs.Ytonbonailghjjaa.Lk
