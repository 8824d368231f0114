/- New, Len, Get, Range, All, Clone, Clear, walked. -/
import Derived.Test.YtdkepbmpcbnkpaaDlE
namespace Go.Proofs.Ytdkepbmpcbnkpaa.Dl
open Go.RowKit Go.Proofs.YtdkepbmpcbnkpaaW.PrintWords Go.Proofs.YtdkepbmpcbnkpaaW.PrintLast Go.Proofs.YtdkepbmpcbnkpaaW.PrintMore Go.Proofs.Ytdkepbmpcbnkpaa.XB Go.Proofs.Ytdkepbmpcbnkpaa.PDeltaPlays
attribute [local go_sem] max2_int min2_int max_two min_two max_three min_three max_four min_four
set_option linter.unusedVariables false
set_option linter.unusedSimpArgs false
variable {w w' : World} {p : At} {rv : Value} {l : List S26}
set_option maxHeartbeats 8000000 in
set_option maxRecDepth 100000 in
theorem new_calls (w : World) : Calls Try.prog 6 #[] w fun e w' => e = .returned (.pointer (some ⟨w.heap.size, 0, none⟩)) ∧ Ch w' ⟨w.heap.size, w.heap.size⟩ (.slice none 0 0) [] ∧ Below w.heap.size w w' := by
  have HT := Aside0.mk (show Ch (w.alloc (.cells #[.slice none 0 0] 50)) ⟨w.heap.size, w.heap.size⟩ (.slice none 0 0) [] from
    ⟨heap_alloc_new w _, Kd.R_nil _ _ _ _ _, Nat.le_refl _, by decide⟩)
  have HB := Aside0.mk (below_alloc (Below.refl w.heap.size w) (.cells #[.slice none 0 0] 50))
  go_enter Try.func6, Try.ntmps6
  go_wp2
  go_ret
  exact ⟨rfl, HT.out, HB.out⟩
set_option maxHeartbeats 8000000 in
set_option maxRecDepth 100000 in
theorem len_calls (h : Ch w p rv l) : Calls Try.prog 11 #[.pointer (some ⟨p.g, 0, none⟩)] w fun e w' => e = .returned (.int .i64 (l.length : Nat)) ∧ Below w.heap.size w w' := by
  obtain ⟨A, c, hrv, _, _⟩ := Kd.R_reads h.row
  subst hrv
  have cg : w.cell? ⟨p.g, 0, none⟩ = some (.slice A l.length c) := blk_cell h.cells 0
  clear h
  go_enter Try.func11, Try.ntmps11
  go_wp2
  go_ret
  exact ⟨rfl, Below.refl _ _⟩
set_option maxHeartbeats 8000000 in
set_option maxRecDepth 100000 in
theorem len_nil (w : World) : Calls Try.prog 11 #[.pointer none] w fun e w' => e = .returned (.int .i64 0) ∧ Below w.heap.size w w' := by
  go_enter Try.func11, Try.ntmps11
  go_wp2
  go_ret
  exact ⟨rfl, Below.refl _ _⟩
/-- what is told of a key -/
def getL (l : List S26) (key : ByteArray) : S26 × Bool :=
  if atN l key < l.length ∧ (rd_T26 l (atN l key : Nat)).f0.toList = key.toList then (rd_T26 l (atN l key : Nat), true) else (z26, false)
set_option maxHeartbeats 8000000 in
set_option maxRecDepth 100000 in
theorem get_calls (h : Ch w p rv l) (hr : Rises l) (key : ByteArray) :
    Calls Try.prog 10 #[.pointer (some ⟨p.g, 0, none⟩), .string key] w fun e w' => e = .returned (.tuple #[.agg #[.string (getL l key).1.f0, .string (getL l key).1.f1, .bool (getL l key).1.f2], .bool (getL l key).2]) ∧ Below w.heap.size w w' := by
  have HR := Aside0.mk hr
  have b0 := Aside0.mk (below_alloc (Below.refl w.heap.size w) (.cells #[.string ⟨#[]⟩, .string ⟨#[]⟩, .bool false] 26))
  have H2 := Aside0.mk (h.below b0.out)
  have hn := heap_alloc_new w (.cells #[.string ⟨#[]⟩, .string ⟨#[]⟩, .bool false] 26)
  have N2 := Aside0.mk hn
  have PE := Aside0.mk (show getL l key = if atN l key < l.length ∧ (rd_T26 l (atN l key : Nat)).f0.toList = key.toList then (rd_T26 l (atN l key : Nat), true) else (z26, false) from rfl)
  clear h hr hn
  go_enter Try.func10, Try.ntmps10
  go_wp2_with (first | (go_at_call 21; fail))
  refine (at_calls H2.out HR.out key).mono ?_
  rintro e w5 ⟨rfl, hb⟩
  have HB5 := Aside0.mk (below_step b0.out hb)
  have H5 := Aside0.mk (H2.out.below hb)
  have hbx := blk_below N2.out hb
  have HBX := Aside0.mk hbx
  have x0 : w5.cell? ⟨w.heap.size, 0, none⟩ = some (.string ⟨#[]⟩) := blk_cell hbx 0
  have x1 : w5.cell? ⟨w.heap.size, 1, none⟩ = some (.string ⟨#[]⟩) := blk_cell hbx 1
  have x2 : w5.cell? ⟨w.heap.size, 2, none⟩ = some (.bool false) := blk_cell hbx 2
  have f0 : w5.frozen? ⟨w.heap.size, 0, none⟩ = false := blk_frozen hbx 0
  have f1 : w5.frozen? ⟨w.heap.size, 1, none⟩ = false := blk_frozen hbx 1
  have f2 : w5.frozen? ⟨w.heap.size, 2, none⟩ = false := blk_frozen hbx 2
  obtain ⟨n, hn⟩ : ∃ n, atN l key = n := ⟨_, rfl⟩
  have HN := Aside0.mk (show n ≤ l.length from hn ▸ atN_le l key)
  rw [hn] at PE ⊢
  clear hb hn hbx
  obtain ⟨A1, c, hrv, _, _⟩ := Kd.R_reads H5.out.row
  subst hrv
  have cg : w5.cell? ⟨p.g, 0, none⟩ = some (.slice A1 l.length c) := blk_cell H5.out.cells 0
  by_cases hlt : n < l.length
  · obtain ⟨gR, c', hrv⟩ := ch_row H5.out (by omega)
    injection hrv with e1 _ e3
    subst e1 e3
    have k0 : (0 : Int) ≤ (n : Int) := by omega
    have k1 : (n : Int) < (l.length : Int) := by omega
    have k2 : ((n : Int) == (l.length : Int)) = false := beq_eq_false_iff_ne.mpr (by omega)
    obtain ⟨ad, hA, t0, t1, t2⟩ := at_T26 (Kd.R_reads' H5.out.row).2.2 (n : Int) k0 k1
    obtain rfl := Option.some.inj hA
    rw [Int.toNat_natCast, add_plain] at t0 t1 t2
    obtain ⟨y, hy⟩ : ∃ y, rd_T26 l (n : Int) = y := ⟨_, rfl⟩
    rw [hy] at t0 t1 t2 PE
    clear hy
    by_cases hk : y.f0.toList = key.toList
    · have v0 : (y.f0.toList == key.toList) = true := by rw [hk]; exact beq_self_eq_true _
      rw [if_pos ⟨hlt, hk⟩] at PE
      clear hk
      go_wp2
      (try simp only [Exit.inBlock, Exit.then])
      refine bodyPost_ret (results_list (rs := [.cell 4 26, .tmp 5]) rfl (by simp) (.cell w.heap.size 26 _ (0, 0) _ rfl (blk_set (blk_set (blk_set HBX.out 0 _) 1 _) 2 _) Try.underlying26 rfl (size26.trans rfl) (.tmp .nil))) rfl ?_
      refine ⟨by rw [PE.out]; rfl, ?_⟩
      exact ((HB5.out.setCell (p := ⟨w.heap.size, 0, none⟩) (Nat.le_refl _) _).setCell (p := ⟨w.heap.size, 1, none⟩) (Nat.le_refl _) _).setCell (p := ⟨w.heap.size, 2, none⟩) (Nat.le_refl _) _
    · have v0 : (y.f0.toList == key.toList) = false := beq_eq_false_iff_ne.mpr hk
      rw [if_neg (fun h => hk h.2)] at PE
      clear hk
      go_wp2
      (try simp only [Exit.inBlock, Exit.then])
      refine bodyPost_ret (results_list (rs := [.cell 4 26, .tmp 5]) rfl (by simp) (.cell w.heap.size 26 _ (0, 0) _ rfl (blk_set (blk_set (blk_set HBX.out 0 _) 1 _) 2 _) Try.underlying26 rfl (size26.trans rfl) (.tmp .nil))) rfl ?_
      refine ⟨by rw [PE.out]; rfl, ?_⟩
      exact ((HB5.out.setCell (p := ⟨w.heap.size, 0, none⟩) (Nat.le_refl _) _).setCell (p := ⟨w.heap.size, 1, none⟩) (Nat.le_refl _) _).setCell (p := ⟨w.heap.size, 2, none⟩) (Nat.le_refl _) _
  · rw [if_neg (fun h => hlt h.1)] at PE
    have k2 : ((n : Int) == (l.length : Int)) = true := by rw [show n = l.length by have := HN.out; omega]; exact beq_self_eq_true _
    have hne : l.length ≤ n := by omega
    have K2 := Aside0.mk (show n = l.length by have := HN.out; omega)
    obtain ⟨L, hL⟩ : ∃ L, l.length = L := ⟨_, rfl⟩
    have hLn := K2.out
    rw [hL] at hLn
    subst hLn
    rw [hL] at cg
    clear k2 hne hL hlt
    have k2 : ((n : Int) == (n : Int)) = true := beq_self_eq_true _
    go_wp2
    (try simp only [Exit.inBlock, Exit.then])
    refine bodyPost_ret (results_list (rs := [.cell 4 26, .tmp 5]) rfl (by simp) (.cell w.heap.size 26 _ (0, 0) _ rfl (blk_set (blk_set (blk_set HBX.out 0 _) 1 _) 2 _) Try.underlying26 rfl (size26.trans rfl) (.tmp .nil))) rfl ?_
    refine ⟨by rw [PE.out]; rfl, ?_⟩
    exact ((HB5.out.setCell (p := ⟨w.heap.size, 0, none⟩) (Nat.le_refl _) _).setCell (p := ⟨w.heap.size, 1, none⟩) (Nat.le_refl _) _).setCell (p := ⟨w.heap.size, 2, none⟩) (Nat.le_refl _) _
/-- the changes of a range -/
def rangeL (l : List S26) (f t : ByteArray) : List S26 :=
  (l.take (max (atN l f) (if t.toList = [] then l.length else atN l t))).drop (atN l f)
theorem C_range {w : World} {A : Option Addr} {c i j : Nat} (h : Kd.C k26 w A l.length l) (hc : l.length ≤ c) (hij : i ≤ j) (hj : j ≤ l.length) : Kd.C k26 w (if c = i then A else A.map (·.add (i * 3))) (j - i) ((l.take j).drop i) := by
  have h1 := Kd.C_take h hj
  have hl : (l.take j).length = j := by rw [List.length_take, Nat.min_eq_left hj]
  have h2 := Kd.C_drop (c := c) h1 (by omega : i ≤ (l.take j).length) (by omega)
  rw [List.length_drop, hl] at h2
  exact h2
set_option maxHeartbeats 8000000 in
set_option maxRecDepth 100000 in
theorem range_calls (h : Ch w p rv l) (hr : Rises l) (f t : ByteArray) :
    Calls Try.prog 15 #[.pointer (some ⟨p.g, 0, none⟩), .string f, .string t] w fun e w' => ∃ v, e = .returned v ∧ Kd.R k26 26 w' w.heap.size (fun _ => True) v (rangeL l f t) ∧ Below w.heap.size w w' := by
  have HR := Aside0.mk hr
  have HH := Aside0.mk h
  obtain ⟨A1, c, hrv, hlc, hC⟩ := Kd.R_reads h.row
  subst hrv
  have cg : w.cell? ⟨p.g, 0, none⟩ = some (.slice A1 l.length c) := blk_cell h.cells 0
  have HC := Aside0.mk hC
  have HLC := Aside0.mk hlc
  have HS := Aside0.mk h.small
  obtain ⟨e, he⟩ : ∃ e, (if t.toList = [] then l.length else atN l t) = e := ⟨_, rfl⟩
  have PE := Aside0.mk (show rangeL l f t = (l.take (max (atN l f) e)).drop (atN l f) from by rw [← he]; rfl)
  have HE := Aside0.mk (show e ≤ l.length from by rw [← he]; split; exact Nat.le_refl _; exact atN_le l t)
  obtain ⟨i, hi⟩ : ∃ i, atN l f = i := ⟨_, rfl⟩
  have EI := Aside0.mk hi
  have HI := Aside0.mk (show i ≤ l.length from hi ▸ atN_le l f)
  rw [hi] at PE
  clear h hr hC hlc hi
  by_cases ht : t.toList = []
  · have s1 : (t.toList == []) = true := by rw [ht]; rfl
    have s0 : t.toList.isEmpty = true := by rw [ht]; rfl
    rw [if_pos ht] at he
    have EE := Aside0.mk he
    clear ht he
    go_enter Try.func15, Try.ntmps15
    go_wp2_with (first | (go_at_call 21; fail))
    refine (at_calls HH.out HR.out f).mono ?_
    rw [EI.out]
    rintro ee w5 ⟨rfl, hb⟩
    have HB5 := Aside0.mk hb
    have cg5 := pw_cell_below hb cg
    clear hb cg
    have h1 := EE.out
    have h2 := HE.out
    have h3 := HI.out
    have h4 := HLC.out
    have i0 : (0 : Int) ≤ (i : Int) := by omega
    have HCR := Aside0.mk (fun (mx : Nat) (a : i ≤ mx) (b : mx ≤ l.length) => C_range (i := i) (Kd.C_below HC.out HB5.out) h4 a b)
    have LS := Aside0.mk (show (rangeL l f t).length < 1000000 from by rw [PE.out, List.length_drop, List.length_take]; have := HS.out; omega)
    by_cases hie : i < e
    · have hie2 : (i : Int) < (l.length : Int) := by omega
      have i1 : (i : Int) ≤ (l.length : Int) := by omega
      have i2 : (l.length : Int) ≤ (c : Int) := by omega
      have hci : ¬ c = i := by omega
      have CR := Aside0.mk (show Kd.C k26 w5 (A1.map (·.add (i * 3))) (l.length - i) (rangeL l f t) from by
        have h := HCR.out e (by omega) h2
        rw [if_neg hci] at h
        rw [PE.out, show max i e = e by omega]
        rw [show l.length = e by omega]
        exact h)
      clear h1 h2 h3 h4 hie
      go_wp2_with (first | (go_at_call 23; fail))
      refine (clone_calls _ _ _ _ _ CR.out LS.out).mono ?_
      rintro ee w6 ⟨v6, rfl, hR6, hb6⟩
      have HR6 := Aside0.mk hR6
      have HB6 := Aside0.mk hb6
      clear hR6 hb6
      go_wp2
      go_ret
      exact ⟨_, rfl, Kd.R_lower HR6.out HB5.out.size, below_step HB5.out HB6.out⟩
    · have hie2 : ¬ (i : Int) < (l.length : Int) := by omega
      have i2 : (i : Int) ≤ (c : Int) := by omega
      have i3 : (i : Int) ≤ (i : Int) := Int.le_refl _
      by_cases hci : c = i
      · have CR := Aside0.mk (show Kd.C k26 w5 A1 0 (rangeL l f t) from by
          have h := HCR.out i (Nat.le_refl _) h3
          rw [if_pos hci, Nat.sub_self] at h
          rw [PE.out, show max i e = i by omega]
          exact h)
        clear h1 h2 h3 h4 hie
        go_wp2_with (first | (go_at_call 23; fail))
        refine (clone_calls _ _ _ _ _ CR.out LS.out).mono ?_
        rintro ee w6 ⟨v6, rfl, hR6, hb6⟩
        have HR6 := Aside0.mk hR6
        have HB6 := Aside0.mk hb6
        clear hR6 hb6
        go_wp2
        go_ret
        exact ⟨_, rfl, Kd.R_lower HR6.out HB5.out.size, below_step HB5.out HB6.out⟩
      · have CR := Aside0.mk (show Kd.C k26 w5 (A1.map (·.add (i * 3))) 0 (rangeL l f t) from by
          have h := HCR.out i (Nat.le_refl _) h3
          rw [if_neg hci, Nat.sub_self] at h
          rw [PE.out, show max i e = i by omega]
          exact h)
        clear h1 h2 h3 h4 hie
        go_wp2_with (first | (go_at_call 23; fail))
        refine (clone_calls _ _ _ _ _ CR.out LS.out).mono ?_
        rintro ee w6 ⟨v6, rfl, hR6, hb6⟩
        have HR6 := Aside0.mk hR6
        have HB6 := Aside0.mk hb6
        clear hR6 hb6
        go_wp2
        go_ret
        exact ⟨_, rfl, Kd.R_lower HR6.out HB5.out.size, below_step HB5.out HB6.out⟩
  · have s1 : (t.toList == []) = false := beq_eq_false_iff_ne.mpr ht
    have s0 : t.toList.isEmpty = false := by cases hw : t.toList with | nil => exact absurd hw ht | cons _ _ => rfl
    rw [if_neg ht] at he
    have EE0 := Aside0.mk he
    have EE := Aside0.mk (show e = e from rfl)
    clear ht he
    go_enter Try.func15, Try.ntmps15
    go_wp2_with (first | (go_at_call 21; fail))
    refine (at_calls HH.out HR.out t).mono ?_
    rw [EE0.out]
    rintro ee w4 ⟨rfl, hb⟩
    have HB4 := Aside0.mk hb
    have cg4 := pw_cell_below hb cg
    clear hb cg
    go_wp2_with (first | (go_at_call 21; fail))
    refine (at_calls (HH.out.below HB4.out) HR.out f).mono ?_
    rw [EI.out]
    rintro ee w5 ⟨rfl, hb⟩
    have HB5 := Aside0.mk (below_step HB4.out hb)
    have cg5 := pw_cell_below hb cg4
    clear hb cg4
    have h1 := EE.out
    have h2 := HE.out
    have h3 := HI.out
    have h4 := HLC.out
    have i0 : (0 : Int) ≤ (i : Int) := by omega
    have HCR := Aside0.mk (fun (mx : Nat) (a : i ≤ mx) (b : mx ≤ l.length) => C_range (i := i) (Kd.C_below HC.out HB5.out) h4 a b)
    have LS := Aside0.mk (show (rangeL l f t).length < 1000000 from by rw [PE.out, List.length_drop, List.length_take]; have := HS.out; omega)
    by_cases hie : i < e
    · have hie2 : (i : Int) < (e : Int) := by omega
      have i1 : (i : Int) ≤ (e : Int) := by omega
      have i2 : (e : Int) ≤ (c : Int) := by omega
      have hci : ¬ c = i := by omega
      have CR := Aside0.mk (show Kd.C k26 w5 (A1.map (·.add (i * 3))) (e - i) (rangeL l f t) from by
        have h := HCR.out e (by omega) h2
        rw [if_neg hci] at h
        rw [PE.out, show max i e = e by omega]
        rw [show e = e by omega]
        exact h)
      clear h1 h2 h3 h4 hie
      go_wp2_with (first | (go_at_call 23; fail))
      refine (clone_calls _ _ _ _ _ CR.out LS.out).mono ?_
      rintro ee w6 ⟨v6, rfl, hR6, hb6⟩
      have HR6 := Aside0.mk hR6
      have HB6 := Aside0.mk hb6
      clear hR6 hb6
      go_wp2
      go_ret
      exact ⟨_, rfl, Kd.R_lower HR6.out HB5.out.size, below_step HB5.out HB6.out⟩
    · have hie2 : ¬ (i : Int) < (e : Int) := by omega
      have i2 : (i : Int) ≤ (c : Int) := by omega
      have i3 : (i : Int) ≤ (i : Int) := Int.le_refl _
      by_cases hci : c = i
      · have CR := Aside0.mk (show Kd.C k26 w5 A1 0 (rangeL l f t) from by
          have h := HCR.out i (Nat.le_refl _) h3
          rw [if_pos hci, Nat.sub_self] at h
          rw [PE.out, show max i e = i by omega]
          exact h)
        clear h1 h2 h3 h4 hie
        go_wp2_with (first | (go_at_call 23; fail))
        refine (clone_calls _ _ _ _ _ CR.out LS.out).mono ?_
        rintro ee w6 ⟨v6, rfl, hR6, hb6⟩
        have HR6 := Aside0.mk hR6
        have HB6 := Aside0.mk hb6
        clear hR6 hb6
        go_wp2
        go_ret
        exact ⟨_, rfl, Kd.R_lower HR6.out HB5.out.size, below_step HB5.out HB6.out⟩
      · have CR := Aside0.mk (show Kd.C k26 w5 (A1.map (·.add (i * 3))) 0 (rangeL l f t) from by
          have h := HCR.out i (Nat.le_refl _) h3
          rw [if_neg hci, Nat.sub_self] at h
          rw [PE.out, show max i e = i by omega]
          exact h)
        clear h1 h2 h3 h4 hie
        go_wp2_with (first | (go_at_call 23; fail))
        refine (clone_calls _ _ _ _ _ CR.out LS.out).mono ?_
        rintro ee w6 ⟨v6, rfl, hR6, hb6⟩
        have HR6 := Aside0.mk hR6
        have HB6 := Aside0.mk hb6
        clear hR6 hb6
        go_wp2
        go_ret
        exact ⟨_, rfl, Kd.R_lower HR6.out HB5.out.size, below_step HB5.out HB6.out⟩
set_option maxHeartbeats 8000000 in
set_option maxRecDepth 100000 in
theorem range_nil (f t : ByteArray) (w : World) : Calls Try.prog 15 #[.pointer none, .string f, .string t] w fun e w' => e = .returned (.slice none 0 0) ∧ Below w.heap.size w w' := by
  go_enter Try.func15, Try.ntmps15
  go_wp2
  go_ret
  exact ⟨rfl, Below.refl _ _⟩
theorem rangeL_all (l : List S26) : rangeL l ⟨#[]⟩ ⟨#[]⟩ = l := by
  have e0 : (⟨#[]⟩ : ByteArray).toList = [] := by rw [toList_data]
  have e1 : atN l ⟨#[]⟩ = 0 := by
    unfold atN
    rw [List.countP_eq_zero]
    intro x _ h
    rw [lt_iff, e0] at h
    exact absurd h (List.not_lt_nil _)
  unfold rangeL
  rw [e1, if_pos e0, List.drop_zero, List.take_of_length_le (by omega)]
set_option maxHeartbeats 8000000 in
set_option maxRecDepth 100000 in
theorem all_calls (h : Ch w p rv l) (hr : Rises l) :
    Calls Try.prog 14 #[.pointer (some ⟨p.g, 0, none⟩)] w fun e w' => ∃ v, e = .returned v ∧ Kd.R k26 26 w' w.heap.size (fun _ => True) v l ∧ Below w.heap.size w w' := by
  have HH := Aside0.mk h
  have HR := Aside0.mk hr
  clear h hr
  go_enter Try.func14, Try.ntmps14
  go_wp2_with (first | (go_at_call 15; fail))
  refine (range_calls HH.out HR.out ⟨#[]⟩ ⟨#[]⟩).mono ?_
  rw [rangeL_all]
  rintro e w6 ⟨v6, rfl, hR6, hb6⟩
  have HR6 := Aside0.mk hR6
  have HB6 := Aside0.mk hb6
  clear hR6 hb6
  go_wp2
  go_ret
  exact ⟨_, rfl, HR6.out, HB6.out⟩
set_option maxHeartbeats 8000000 in
set_option maxRecDepth 100000 in
theorem all_nil (w : World) : Calls Try.prog 14 #[.pointer none] w fun e w' => e = .returned (.slice none 0 0) ∧ Below w.heap.size w w' := by
  go_enter Try.func14, Try.ntmps14
  go_wp2_with (first | (go_at_call 15; fail))
  refine (range_nil ⟨#[]⟩ ⟨#[]⟩ w).mono ?_
  rintro e w6 ⟨rfl, hb6⟩
  have HB6 := Aside0.mk hb6
  clear hb6
  go_wp2
  go_ret
  exact ⟨rfl, HB6.out⟩
end Go.Proofs.Ytdkepbmpcbnkpaa.Dl
