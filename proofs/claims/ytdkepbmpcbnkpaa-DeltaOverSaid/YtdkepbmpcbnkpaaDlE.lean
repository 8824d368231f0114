/- Clone of a row, Put, walked. -/
import Derived.Test.YtdkepbmpcbnkpaaDlD
namespace Go.Proofs.Ytdkepbmpcbnkpaa.Dl
open Go.RowKit Go.Proofs.YtdkepbmpcbnkpaaW.PrintWords Go.Proofs.YtdkepbmpcbnkpaaW.PrintLast Go.Proofs.YtdkepbmpcbnkpaaW.PrintMore Go.Proofs.Ytdkepbmpcbnkpaa.XB Go.Proofs.Ytdkepbmpcbnkpaa.PDeltaPlays
attribute [local go_sem] max2_int min2_int max_two min_two max_three min_three max_four min_four
set_option linter.unusedVariables false
set_option linter.unusedSimpArgs false
variable {w w' : World} {p : At} {rv : Value} {l : List S26}
theorem cell_dr {W : World} {a : Addr} {v : Value} (h : W.cell? a = some v) : W.drew.cell? a = some v := h
theorem cell_al {W : World} {a : Addr} {v : Value} (o : Obj) (h : W.cell? a = some v) : (W.alloc o).cell? a = some v := pw_cell_below (below_alloc (Below.refl _ _) o) h
theorem row_frozen {base g n cap : Nat} {ok : Nat → Prop} {ys : List S26} {W : World} (h : Kd.R k26 26 W base ok (.slice (some ⟨g, 0, none⟩) n cap) ys) (i : Nat) : W.frozen? ⟨g, i, none⟩ = false := by
  obtain ⟨_, inner, ho, _⟩ := h
  rcases ho.2 with ⟨h2, _⟩ | ⟨g', cap', cur, hv, _, hg, _⟩
  · cases h2
  · injection hv with e1
    injection e1 with e1
    injection e1 with e1
    subst e1
    exact blk_frozen hg i
theorem ch_row (h : Ch w p rv l) (hl : 0 < l.length) : ∃ gR c, rv = .slice (some ⟨gR, 0, none⟩) l.length c := by
  obtain ⟨A, c, hv, _, _⟩ := Kd.R_reads h.row
  obtain ⟨_, inner, ho, hr⟩ := h.row
  rcases ho.2 with ⟨h2, h3⟩ | ⟨g', cap', cur, hv2, _⟩
  · omega
  · rw [hv] at hv2
    injection hv2 with e1 _ _
    subst e1
    exact ⟨g', c, hv⟩
set_option maxHeartbeats 8000000 in
set_option maxRecDepth 100000 in
theorem clone_calls (A : Option Addr) (n c : Nat) (xs : List S26) (w : World) (hr : Kd.C k26 w A n xs) (hl : xs.length < 1000000) :
    Calls Try.prog 23 #[.slice A n c] w fun e w' => ∃ v, e = .returned v ∧ Kd.R k26 26 w' w.heap.size (fun _ => True) v xs ∧ Below w.heap.size w w' := by
  have hn : n = xs.length := hr.1.symm
  subst hn
  have HR := Aside0.mk hr
  have HL := Aside0.mk hl
  have q_ := fun (W : World) => Lib.run_eql_slice_nil (P := Try.prog) W 22 26 A xs.length c 0 0 Try.underlying22
  cases A with
  | none =>
    have hx : xs = [] := by
      rcases Nat.eq_zero_or_pos xs.length with h | h
      · exact List.eq_nil_of_length_eq_zero h
      · obtain ⟨ad, e, _⟩ := HR.out.2.2 h
        cases e
    subst hx
    have q1_ : ∀ W : World, (binOp .eql 22 (.slice none 0 c) (.slice none 0 0)).run Try.prog W = .ok (.bool true) W := fun W => q_ W
    clear hr hl HR HL q_
    go_enter Try.func23, Try.ntmps23
    go_wp2
    go_ret
    exact ⟨_, rfl, Kd.R_nil _ _ _ _ _, Below.refl _ _⟩
  | some ad =>
    clear hr hl
    go_enter Try.func23, Try.ntmps23
    go_wp2_with (at_builtin; refine Kd.R_append_rows (w0 := w) k26 w.heap.size rfl _ _ 22 26 (.agg #[.string ⟨#[]⟩, .string ⟨#[]⟩, .bool false]) 40 rfl Try.underlying22 ?qi ?q1 ?q2 ?q3 (.slice (some ⟨w.heap.size, 0, none⟩) 0 0) [] xs (some ad) xs.length c (fun _ => True) (fun _ => False) rfl rfl ?q4 (Kd.C_below HR.out (below_alloc (Below.refl _ _) _)) ?q5 ?q6 ?q7 (below_alloc (Below.refl _ _) _) ?q8 ?q9 ?_)
    case qi => kernel_rfl
    case q1 => rfl
    case q2 => decide
    case q3 => decide
    case q4 => exact ⟨fun _ _ => trivial, [], World.ownsRow_made w #[] 0 (Nat.le_refl _) (Nat.zero_le _) rfl, Reps.none _ _⟩
    case q5 => exact fun _ _ h => h
    case q6 => exact fun _ h => h.elim
    case q7 => exact fun _ _ => trivial
    case q8 => simp
    case q9 => have := HL.out; simp; omega
    intro v1 w1 hR hB hG hO
    obtain ⟨A3, c3, hv1⟩ := Kd.R_slice hR
    have HB := Aside0.mk hB
    have HR1 := Aside0.mk hR
    clear hR hB hG hO hv1
    go_wp2
    go_ret
    exact ⟨v1, rfl, HR1.out, HB.out⟩
/-- a change noted -/
def putL (l : List S26) (x : S26) : List S26 :=
  if x.f0.toList = [] then l else if atN l x.f0 < l.length ∧ (rd_T26 l (atN l x.f0 : Nat)).f0.toList = x.f0.toList then l.set (atN l x.f0) x else insC l (atN l x.f0) x
theorem ch_elem {W : World} {gR n c : Nat} (h : Ch W p (.slice (some ⟨gR, 0, none⟩) n c) l) (k : Nat) (hk : k < l.length) (x : S26) :
    Ch (((W.setCell ⟨gR, k * 3, none⟩ (.string x.f0)).setCell ⟨gR, k * 3 + 1, none⟩ (.string x.f1)).setCell ⟨gR, k * 3 + 2, none⟩ (.bool x.f2)) p (.slice (some ⟨gR, 0, none⟩) n c) (l.set k x) := by
  have hn := (Kd.R_reads' h.row).1
  have k0 : (0 : Int) ≤ (k : Int) := by omega
  have k1 : (k : Int) < (n : Int) := by omega
  obtain ⟨cs, hcl, hM, hcc, _⟩ := Kd.R_elem h.row z26 (k : Int) k0 k1
  obtain ⟨hR, hG⟩ := Kd.R_seg h.row (k : Int) k0 k1 (c := cs) (seg := c3 x) (j := 0) (x' := x) (okp := fun q => q ≠ p.g ∧ q ≠ gR) hcl hcc (Nat.le_refl 3) (by
    have e : cs.drop 3 = [] := List.drop_of_length_le (by rw [hcl]; exact Nat.le_refl 3)
    show k26.M W p.B _ _ (cs.take 0 ++ c3 x ++ cs.drop 3)
    rw [e]
    exact k26_mkM W p.B _ x) (fun q hq => hq)
  have hgne : p.g ≠ gR := fun e => h.row.1 gR (by simp [Value.ownBlock]) e.symm
  refine ⟨?_, hR, h.bg, by rw [List.length_set]; exact h.small⟩
  exact (Below.heap_setCell _ _ _ _ hgne).trans ((Below.heap_setCell _ _ _ _ hgne).trans ((Below.heap_setCell _ _ _ _ hgne).trans h.cells))
set_option maxHeartbeats 8000000 in
set_option maxRecDepth 100000 in
theorem put_calls (h : Ch w p rv l) (hr : Rises l) (x : S26) (hs : l.length + 1 < 1000) :
    Calls Try.prog 8 #[.pointer (some ⟨p.g, 0, none⟩), .agg #[.string x.f0, .string x.f1, .bool x.f2]] w fun e w' => e = .returned (.tuple #[]) ∧ (∃ rv', Ch w' p rv' (putL l x)) ∧ Below p.B w w' ∧ Far p.g rv.ownBlock w w' := by
  have HR := Aside0.mk hr
  have HS := Aside0.mk hs
  have BB0 := Aside0.mk h.base
  have WLT := Aside0.mk (show p.g < w.heap.size from blk_lt h.cells)
  have b0 := Aside0.mk (below_alloc (Below.refl w.heap.size w) (.cells #[.string x.f0, .string x.f1, .bool x.f2] 26))
  have H2 := Aside0.mk (h.below b0.out)
  have hn := heap_alloc_new w (.cells #[.string x.f0, .string x.f1, .bool x.f2] 26)
  have N2 := Aside0.mk hn
  have z0 : (w.alloc (.cells #[.string x.f0, .string x.f1, .bool x.f2] 26)).cell? ⟨w.heap.size, 0, none⟩ = some (.string x.f0) := blk_cell hn 0
  have PE := Aside0.mk (show putL l x = if x.f0.toList = [] then l else if atN l x.f0 < l.length ∧ (rd_T26 l (atN l x.f0 : Nat)).f0.toList = x.f0.toList then l.set (atN l x.f0) x else insC l (atN l x.f0) x from rfl)
  have OWN := Aside0.mk (show ∀ k, rv.ownBlock = some k → k < w.heap.size from Kd.R_lt h.row)
  clear h hr hs hn
  by_cases he : x.f0.toList = []
  · have s1 : (x.f0.toList == []) = true := by rw [he]; rfl
    rw [if_pos he] at PE
    have s0 : x.f0.toList.isEmpty = true := by rw [he]; rfl
    clear he
    go_enter Try.func8, Try.ntmps8
    go_wp2
    (first | go_end0 | ((try simp only [Exit.inBlock, Exit.then]); refine bodyPost_ret (results_none rfl _ _ _) rfl ?_))
    exact ⟨rfl, ⟨_, by rw [PE.out]; exact H2.out⟩, b0.out.mono BB0.out, fun q hq _ _ => b0.out.block q hq⟩
  · have s1 : (x.f0.toList == []) = false := beq_eq_false_iff_ne.mpr he
    have s0 : x.f0.toList.isEmpty = false := by cases hw : x.f0.toList with | nil => exact absurd hw he | cons _ _ => rfl
    rw [if_neg he] at PE
    clear he
    go_enter Try.func8, Try.ntmps8
    go_wp2_with (first | (go_at_call 21; fail))
    refine (at_calls H2.out HR.out x.f0).mono ?_
    rintro e w5 ⟨rfl, hb⟩
    have HB5 := Aside0.mk (below_step b0.out hb)
    have H5 := Aside0.mk (H2.out.below hb)
    have hbx := blk_below N2.out hb
    obtain ⟨bx, hbxe⟩ : ∃ bx, w.heap.size = bx := ⟨_, rfl⟩
    have EBX := Aside0.mk hbxe
    rw [hbxe] at hbx ⊢
    have b0 : w5.cell? ⟨bx, 0, none⟩ = some (.string x.f0) := blk_cell hbx 0
    have b1 : w5.cell? ⟨bx, 1, none⟩ = some (.string x.f1) := blk_cell hbx 1
    have b2 : w5.cell? ⟨bx, 2, none⟩ = some (.bool x.f2) := blk_cell hbx 2
    obtain ⟨n, hn⟩ : ∃ n, atN l x.f0 = n := ⟨_, rfl⟩
    have HN := Aside0.mk (show n ≤ l.length from hn ▸ atN_le l x.f0)
    rw [hn] at PE ⊢
    clear hb hn hbxe hbx z0
    obtain ⟨A1, c, hrv, _, _⟩ := Kd.R_reads H5.out.row
    subst hrv
    have cg : w5.cell? ⟨p.g, 0, none⟩ = some (.slice A1 l.length c) := blk_cell H5.out.cells 0
    by_cases hlt : n < l.length
    · obtain ⟨gR, c', hrv⟩ := ch_row H5.out (by omega)
      injection hrv with e1 _ e3
      subst e1 e3
      have k0 : (0 : Int) ≤ (n : Int) := by omega
      have k1 : (n : Int) < (l.length : Int) := by omega
      have k2 : decide ((n : Int) < (l.length : Int)) = true := decide_eq_true k1
      have k3 : decide (n < l.length) = true := decide_eq_true hlt
      obtain ⟨ad, hA, t0, t1, t2⟩ := at_T26 (Kd.R_reads' H5.out.row).2.2 (n : Int) k0 k1
      obtain rfl := Option.some.inj hA
      rw [Int.toNat_natCast, add_plain] at t0 t1 t2
      obtain ⟨y, hy⟩ : ∃ y, rd_T26 l (n : Int) = y := ⟨_, rfl⟩
      rw [hy] at t0 t1 t2 PE
      clear hy
      by_cases hk : y.f0.toList = x.f0.toList
      · have v0 : (y.f0.toList == x.f0.toList) = true := by rw [hk]; exact beq_self_eq_true _
        rw [if_pos ⟨hlt, hk⟩] at PE
        clear hk
        go_wp2
        first | go_quiet (fail) | go_region
        go_wp2
        generalize hw6 : w5.drewN _ = w6
        have bq : Below w5.heap.size w5 w6 := by rw [← hw6]; exact pw_below_drewN (Below.refl _ _) _
        have HB6 := Aside0.mk (below_step HB5.out bq)
        have H6 := Aside0.mk (H5.out.below bq)
        have cg := pw_cell_below bq cg
        have b0 := pw_cell_below bq b0
        have b1 := pw_cell_below bq b1
        have b2 := pw_cell_below bq b2
        have t0 := pw_cell_below bq t0
        have t1 := pw_cell_below bq t1
        have t2 := pw_cell_below bq t2
        have fz : ∀ i, w6.frozen? ⟨gR, i, none⟩ = false := row_frozen H6.out.row
        have fz0 := fz (n * 3)
        have fz1 := fz (n * 3 + 1)
        have fz2 := fz (n * 3 + 2)
        have T9 := Aside0.mk (ch_elem H6.out n hlt x)
        have GB := Aside0.mk (show p.B ≤ gR from Kd.R_base H6.out.row gR (by simp [Value.ownBlock]))
        have BW := Aside0.mk (HB6.out.mono BB0.out)
        clear hw6 bq fz H5 HB5
        refine start_ (n := 8) (S := fun w' => w'.cell? ⟨p.g, 0, none⟩ = some (.slice (some ⟨gR, 0, none⟩) l.length c) ∧ w'.cell? ⟨bx, 0, none⟩ = some (.string x.f0) ∧ w'.cell? ⟨bx, 1, none⟩ = some (.string x.f1) ∧ w'.cell? ⟨bx, 2, none⟩ = some (.bool x.f2)) (ds := [7]) #[false, false, false, false, false, false, false, false] (by kernel_rfl) rfl rfl ⟨cell_dr cg, cell_dr b0, cell_dr b1, cell_dr b2⟩ (fun hHeld => ?_)
        refine pure_ (i := 0) (N := some 36) (v := ?_) (a' := ?_) #[true, false, false, false, false, false, false, false] rfl rfl (by kernel_rfl) (fun _ _ _ h => h) (Or.inl ⟨by rfl, ?_⟩) ?_ ?_
        rotate_left
        · intro w'
          go_simp
          with_reducible rfl
        rotate_left
        · simp only [Act.put, List.setIfInBounds_toArray, List.set_cons_zero, List.set_cons_succ, i64_w, i32_w]
          rfl
        refine pure_ (i := 1) (N := some 37) (v := ?_) (a' := ?_) #[true, true, false, false, false, false, false, false] rfl rfl (by kernel_rfl) (fun _ _ _ h => h) (Or.inl ⟨by rfl, ?_⟩) ?_ ?_
        rotate_left
        · intro w'
          go_simp
          with_reducible rfl
        rotate_left
        · simp only [Act.put, List.setIfInBounds_toArray, List.set_cons_zero, List.set_cons_succ, i64_w, i32_w]
          rfl
        refine pure_ (i := 2) (N := some 38) (v := ?_) (a' := ?_) #[true, true, true, false, false, false, false, false] rfl rfl (by kernel_rfl) (fun _ _ _ h => h) (Or.inl ⟨by rfl, ?_⟩) ?_ ?_
        rotate_left
        · intro w'
          go_simp
          with_reducible rfl
        rotate_left
        · simp only [Act.put, List.setIfInBounds_toArray, List.set_cons_zero, List.set_cons_succ, i64_w, i32_w]
          rfl
        refine pure_ (i := 4) (N := some 40) (v := ?_) (a' := ?_) #[true, true, true, false, true, false, false, false] rfl rfl (by kernel_rfl) (fun _ _ _ h => h) (Or.inl ⟨by rfl, ?_⟩) ?_ ?_
        rotate_left
        · intro w'
          go_simp
          with_reducible rfl
        rotate_left
        · simp only [Act.put, List.setIfInBounds_toArray, List.set_cons_zero, List.set_cons_succ, i64_w, i32_w]
          rfl
        refine take_ (i := 3) (N := some 39) (v := ?_) (a' := ?_) #[true, true, true, true, true, false, false, false] rfl rfl (by kernel_rfl) (fun _ _ _ h => h) (Or.inl ⟨by rfl, ?_⟩) hHeld ?_ ?_
        rotate_left
        · rintro w' ⟨s0, s1, s2, s3⟩
          go_simp
          with_reducible rfl
        rotate_left
        · simp only [Act.put, List.setIfInBounds_toArray, List.set_cons_zero, List.set_cons_succ, i64_w, i32_w]
          rfl
        refine take_ (i := 5) (N := some 41) (v := ?_) (a' := ?_) #[true, true, true, true, true, true, false, false] rfl rfl (by kernel_rfl) (fun _ _ _ h => h) (Or.inl ⟨by rfl, ?_⟩) hHeld ?_ ?_
        rotate_left
        · rintro w' ⟨s0, s1, s2, s3⟩
          go_simp
          with_reducible rfl
        rotate_left
        · simp only [Act.put, List.setIfInBounds_toArray, List.set_cons_zero, List.set_cons_succ, i64_w, i32_w]
          rfl
        refine pure_ (i := 6) (N := some 42) (v := ?_) (a' := ?_) #[true, true, true, true, true, true, true, false] rfl rfl (by kernel_rfl) (fun _ _ _ h => h) (Or.inl ⟨by rfl, ?_⟩) ?_ ?_
        rotate_left
        · intro w'
          go_simp
          with_reducible rfl
        rotate_left
        · simp only [Act.put, List.setIfInBounds_toArray, List.set_cons_zero, List.set_cons_succ, i64_w, i32_w]
          rfl
        refine last_ (i := 7) (N := none) #[true, true, true, true, true, true, true, true] rfl rfl (by kernel_rfl) (by decide) (fun K hK => ?_)
        refine skip_ (w1 := ?_) (by rfl) rfl ?_ ?_
        rotate_left
        · go_simp
          rfl
        refine hK.out _ _ ?_
        clear hK K
        refine done_ (by kernel_rfl) ?_
        clear hHeld cg b0 b1 b2 t0 t1 t2 fz0 fz1 fz2
        go_wp2
        (first | go_end0 | ((try simp only [Exit.inBlock, Exit.then]); refine bodyPost_ret (results_none rfl _ _ _) rfl ?_))
        exact ⟨rfl, ⟨_, by rw [PE.out]; exact T9.out.below (below_drew1 (Below.refl _ _))⟩, (((BW.out.drew.setCell (p := ⟨gR, n * 3, none⟩) GB.out _).setCell (p := ⟨gR, n * 3 + 1, none⟩) GB.out _).setCell (p := ⟨gR, n * 3 + 2, none⟩) GB.out _), fun q hq h1 h2 => (Below.heap_setCell _ _ _ _ (fun e => h2 (by rw [e]; rfl))).trans ((Below.heap_setCell _ _ _ _ (fun e => h2 (by rw [e]; rfl))).trans ((Below.heap_setCell _ _ _ _ (fun e => h2 (by rw [e]; rfl))).trans (HB6.out.drew.block q hq)))⟩
      · have v0 : (y.f0.toList == x.f0.toList) = false := beq_eq_false_iff_ne.mpr hk
        rw [if_neg (fun h => hk h.2)] at PE
        clear hk
        go_wp2
        first | go_quiet (fail) | go_region
        go_wp2
        obtain ⟨A1, hA1⟩ : ∃ A1, some (⟨gR, 0, none⟩ : Addr) = A1 := ⟨_, rfl⟩
        have HA := Aside0.mk hA1
        rw [hA1] at cg H5 ⊢
        generalize hw6 : w5.drewN _ = w6
        have bq : Below w5.heap.size w5 w6 := by rw [← hw6]; exact pw_below_drewN (Below.refl _ _) _
        have HB6 := Aside0.mk (below_step HB5.out bq)
        have H6 := Aside0.mk (H5.out.below bq)
        have cg := pw_cell_below bq cg
        have b0 := pw_cell_below bq b0
        have b1 := pw_cell_below bq b1
        have b2 := pw_cell_below bq b2
        clear hw6 bq H5 HB5 hA1 t0 t1 t2
        have BQ := Aside0.mk (show Below w6.heap.size w6 (w6.alloc (.cells #[.string x.f0, .string x.f1, .bool x.f2] 26)).drew from below_drew1 (below_alloc (Below.refl _ _) _))
        have RX := Aside0.mk (Kd.R_below H6.out.row BQ.out)
        have HQX := Aside0.mk (show (w6.alloc (.cells #[.string x.f0, .string x.f1, .bool x.f2] 26)).drew.heap[w6.heap.size]? = some (.cells (c3 x).toArray 26 (0, 0)) from blk_drew (heap_alloc_new w6 _))
        have GL := Aside0.mk (show p.g < (w6.alloc (.cells #[.string x.f0, .string x.f1, .bool x.f2] 26)).drew.heap.size from Nat.lt_of_lt_of_le (blk_lt H6.out.cells) BQ.out.size)
        have NG := Aside0.mk (show some p.g ≠ (Value.slice A1 l.length c).ownBlock from fun e => H6.out.row.1 p.g e.symm rfl)
        have HF := Aside0.mk (show ∀ k, (w6.alloc (.cells #[.string x.f0, .string x.f1, .bool x.f2] 26)).drew.heap.size ≤ k → k ≠ p.g from fun k hk e => by have := GL.out; omega)
        have NQ := Aside0.mk (show (Value.slice A1 l.length c).ownBlock ≠ some w6.heap.size from fun e => Nat.lt_irrefl _ (Kd.R_lt H6.out.row _ e))
        have BS := Aside0.mk (show p.B ≤ (w6.alloc (.cells #[.string x.f0, .string x.f1, .bool x.f2] 26)).drew.heap.size from Nat.le_trans H6.out.base BQ.out.size)
        refine start_ (n := 12) (S := fun w' => w'.cell? ⟨p.g, 0, none⟩ = some (.slice A1 l.length c) ∧ w'.cell? ⟨bx, 0, none⟩ = some (.string x.f0) ∧ w'.cell? ⟨bx, 1, none⟩ = some (.string x.f1) ∧ w'.cell? ⟨bx, 2, none⟩ = some (.bool x.f2)) (ds := [8, 11]) #[false, false, false, false, false, false, false, false, false, false, false, false] (by kernel_rfl) rfl rfl ⟨cell_dr cg, cell_dr b0, cell_dr b1, cell_dr b2⟩ (fun hHeld => ?_)
        refine pure_ (i := 0) (N := some 43) (v := ?_) (a' := ?_) #[true, false, false, false, false, false, false, false, false, false, false, false] rfl rfl (by kernel_rfl) (fun _ _ _ h => h) (Or.inl ⟨by rfl, ?_⟩) ?_ ?_
        rotate_left
        · intro w'
          go_simp
          with_reducible rfl
        rotate_left
        · simp only [Act.put, List.setIfInBounds_toArray, List.set_cons_zero, List.set_cons_succ, i64_w, i32_w]
          rfl
        refine pure_ (i := 1) (N := some 44) (v := ?_) (a' := ?_) #[true, true, false, false, false, false, false, false, false, false, false, false] rfl rfl (by kernel_rfl) (fun _ _ _ h => h) (Or.inl ⟨by rfl, ?_⟩) ?_ ?_
        rotate_left
        · intro w'
          go_simp
          with_reducible rfl
        rotate_left
        · simp only [Act.put, List.setIfInBounds_toArray, List.set_cons_zero, List.set_cons_succ, i64_w, i32_w]
          rfl
        refine pure_ (i := 2) (N := some 45) (v := ?_) (a' := ?_) #[true, true, true, false, false, false, false, false, false, false, false, false] rfl rfl (by kernel_rfl) (fun _ _ _ h => h) (Or.inl ⟨by rfl, ?_⟩) ?_ ?_
        rotate_left
        · intro w'
          go_simp
          with_reducible rfl
        rotate_left
        · simp only [Act.put, List.setIfInBounds_toArray, List.set_cons_zero, List.set_cons_succ, i64_w, i32_w]
          rfl
        refine pure_ (i := 3) (N := some 46) (v := ?_) (a' := ?_) #[true, true, true, true, false, false, false, false, false, false, false, false] rfl rfl (by kernel_rfl) (fun _ _ _ h => h) (Or.inl ⟨by rfl, ?_⟩) ?_ ?_
        rotate_left
        · intro w'
          go_simp
          with_reducible rfl
        rotate_left
        · simp only [Act.put, List.setIfInBounds_toArray, List.set_cons_zero, List.set_cons_succ, i64_w, i32_w]
          rfl
        refine pure_ (i := 5) (N := some 48) (v := ?_) (a' := ?_) #[true, true, true, true, false, true, false, false, false, false, false, false] rfl rfl (by kernel_rfl) (fun _ _ _ h => h) (Or.inl ⟨by rfl, ?_⟩) ?_ ?_
        rotate_left
        · intro w'
          go_simp
          with_reducible rfl
        rotate_left
        · simp only [Act.put, List.setIfInBounds_toArray, List.set_cons_zero, List.set_cons_succ, i64_w, i32_w]
          rfl
        refine take_ (i := 4) (N := some 47) (v := ?_) (a' := ?_) #[true, true, true, true, true, true, false, false, false, false, false, false] rfl rfl (by kernel_rfl) (fun _ _ _ h => h) (Or.inl ⟨by rfl, ?_⟩) hHeld ?_ ?_
        rotate_left
        · rintro w' ⟨s0, s1, s2, s3⟩
          go_simp
          with_reducible rfl
        rotate_left
        · simp only [Act.put, List.setIfInBounds_toArray, List.set_cons_zero, List.set_cons_succ, i64_w, i32_w]
          rfl
        refine take_ (i := 6) (N := some 49) (v := ?_) (a' := ?_) #[true, true, true, true, true, true, true, false, false, false, false, false] rfl rfl (by kernel_rfl) (fun _ _ _ h => h) (Or.inl ⟨by rfl, ?_⟩) hHeld ?_ ?_
        rotate_left
        · rintro w' ⟨s0, s1, s2, s3⟩
          go_simp
          with_reducible rfl
        rotate_left
        · simp only [Act.put, List.setIfInBounds_toArray, List.set_cons_zero, List.set_cons_succ, i64_w, i32_w]
          rfl
        refine one_ (i := 7) (N := some 50) #[true, true, true, true, true, true, true, true, false, false, false, false] rfl rfl (by kernel_rfl) (by decide) (fun K hK => ?_)
        refine value_ (w1 := ?_) (v := ?_) (by rfl) rfl ?_ ?_
        rotate_left 2
        · go_simp
          constructor
          · rfl
          · rfl
        refine hK.out _ _ ⟨cell_al _ hHeld.1, cell_al _ hHeld.2.1, cell_al _ hHeld.2.2.1, cell_al _ hHeld.2.2.2⟩ (fun hHeld => ?_)
        clear hK K
        refine norm_ (a' := ?_) ?_ ?_
        rotate_left
        · show Act.put _ (some 50) _ = _
          simp only [Act.put, List.setIfInBounds_toArray, List.set_cons_zero, List.set_cons_succ, i64_w, i32_w]
          rfl
        refine last_ (i := 8) (N := some 51) #[true, true, true, true, true, true, true, true, true, false, false, false] rfl rfl (by kernel_rfl) (by decide) (fun K hK => ?_)
        refine goes_ Try.func22 (by kernel_rfl) rfl #[.slice A1 l.length c, .int .i64 (n : Int), .slice (some ⟨w6.heap.size, 0, none⟩) 1 1] (by rfl) rfl rfl (by simp only [List.map_toArray, List.map_cons, List.map_nil]; rfl) ?_
        with_reducible refine (insert_calls _ p.B (fun k => k ≠ p.g) HF.out A1 c l RX.out H6.out.small n HN.out w6.heap.size x HQX.out NQ.out BS.out).mono ?_
        rintro e w8 ⟨v8, rfl, hR8, hB8, hG8⟩
        refine ⟨_, rfl, ?_⟩
        have hR8 : Kd.R k26 26 w8 p.B (fun k => k ≠ p.g) v8 (insC l n x) := hR8
        obtain ⟨A8, c8, rfl⟩ := Kd.R_slice hR8
        have g8 : w8.heap[p.g]? = some (.cells #[.slice A1 l.length c] 50 (0, 0)) := (hG8.block p.g GL.out NG.out).trans (blk_below H6.out.cells BQ.out)
        have s80 : w8.cell? ⟨p.g, 0, none⟩ = some (.slice A1 l.length c) := blk_cell g8 0
        have f80 : w8.frozen? ⟨p.g, 0, none⟩ = false := blk_frozen g8 0
        refine hK.out _ _ ?_
        clear hK K
        refine norm_ (a' := ?_) ?_ ?_
        rotate_left
        · show Act.put _ (some 51) _ = _
          simp only [Act.put, List.setIfInBounds_toArray, List.set_cons_zero, List.set_cons_succ, i64_w, i32_w]
          rfl
        refine pure_ (i := 9) (N := some 52) (v := ?_) (a' := ?_) #[true, true, true, true, true, true, true, true, true, true, false, false] rfl rfl (by kernel_rfl) (fun _ _ _ h => h) (Or.inl ⟨by rfl, ?_⟩) ?_ ?_
        rotate_left
        · intro w'
          go_simp
          with_reducible rfl
        rotate_left
        · simp only [Act.put, List.setIfInBounds_toArray, List.set_cons_zero, List.set_cons_succ, i64_w, i32_w]
          rfl
        refine pure_ (i := 10) (N := some 53) (v := ?_) (a' := ?_) #[true, true, true, true, true, true, true, true, true, true, true, false] rfl rfl (by kernel_rfl) (fun _ _ _ h => h) (Or.inl ⟨by rfl, ?_⟩) ?_ ?_
        rotate_left
        · intro w'
          go_simp
          with_reducible rfl
        rotate_left
        · simp only [Act.put, List.setIfInBounds_toArray, List.set_cons_zero, List.set_cons_succ, i64_w, i32_w]
          rfl
        refine last_ (i := 11) (N := none) #[true, true, true, true, true, true, true, true, true, true, true, true] rfl rfl (by kernel_rfl) (by decide) (fun K hK => ?_)
        refine skip_ (w1 := ?_) (by rfl) rfl ?_ ?_
        rotate_left
        · go_simp
          rfl
        refine hK.out _ _ ?_
        clear hK K
        refine done_ (by kernel_rfl) ?_
        have HR8 := Aside0.mk hR8
        have HB8 := Aside0.mk (show Below p.B w w8 from (HB6.out.mono BB0.out).trans ((BQ.out.mono H6.out.base).trans hB8))
        have T8 := Aside0.mk (show Ch (w8.setCell ⟨p.g, 0, none⟩ (.slice A8 (insC l n x).length c8)) p (.slice A8 (insC l n x).length c8) (insC l n x) from
          ⟨blk_set g8 0 _, Kd.R_far hR8 (p := ⟨p.g, 0, none⟩) (fun k hk => hk) _, H6.out.bg, by rw [insC_length _ _ _ HN.out]; exact HS.out⟩)
        have F8 := Aside0.mk (show Far p.g (Value.slice A1 l.length c).ownBlock w (w8.setCell ⟨p.g, 0, none⟩ (.slice A8 (insC l n x).length c8)) from fun q hq h1 h2 => (Below.heap_setCell _ _ _ _ h1).trans ((hG8.block q (Nat.lt_of_lt_of_le hq (below_step HB6.out BQ.out).size) h2).trans ((below_step HB6.out BQ.out).block q hq)))
        clear hHeld hR8 hB8 hG8 g8 s80 f80
        go_wp2
        (first | go_end0 | ((try simp only [Exit.inBlock, Exit.then]); refine bodyPost_ret (results_none rfl _ _ _) rfl ?_))
        exact ⟨rfl, ⟨_, by rw [PE.out]; exact T8.out⟩, HB8.out.setCell (p := ⟨p.g, 0, none⟩) H6.out.bg _, by first | exact F8.out | (rw [HA.out]; exact F8.out)⟩
    · have hne : l.length ≤ n := by omega
      rw [if_neg (fun h => hlt h.1)] at PE
      have k2 : decide ((n : Int) < (l.length : Int)) = false := decide_eq_false (by omega)
      have k3 : decide (n < l.length) = false := decide_eq_false hlt
      go_wp2
      first | go_quiet (fail) | go_region
      go_wp2
      generalize hw6 : w5.drewN _ = w6
      have bq : Below w5.heap.size w5 w6 := by rw [← hw6]; exact pw_below_drewN (Below.refl _ _) _
      have HB6 := Aside0.mk (below_step HB5.out bq)
      have H6 := Aside0.mk (H5.out.below bq)
      have cg := pw_cell_below bq cg
      have b0 := pw_cell_below bq b0
      have b1 := pw_cell_below bq b1
      have b2 := pw_cell_below bq b2
      clear hw6 bq H5 HB5
      have BQ := Aside0.mk (show Below w6.heap.size w6 (w6.alloc (.cells #[.string x.f0, .string x.f1, .bool x.f2] 26)).drew from below_drew1 (below_alloc (Below.refl _ _) _))
      have RX := Aside0.mk (Kd.R_below H6.out.row BQ.out)
      have HQX := Aside0.mk (show (w6.alloc (.cells #[.string x.f0, .string x.f1, .bool x.f2] 26)).drew.heap[w6.heap.size]? = some (.cells (c3 x).toArray 26 (0, 0)) from blk_drew (heap_alloc_new w6 _))
      have GL := Aside0.mk (show p.g < (w6.alloc (.cells #[.string x.f0, .string x.f1, .bool x.f2] 26)).drew.heap.size from Nat.lt_of_lt_of_le (blk_lt H6.out.cells) BQ.out.size)
      have NG := Aside0.mk (show some p.g ≠ (Value.slice A1 l.length c).ownBlock from fun e => H6.out.row.1 p.g e.symm rfl)
      have HF := Aside0.mk (show ∀ k, (w6.alloc (.cells #[.string x.f0, .string x.f1, .bool x.f2] 26)).drew.heap.size ≤ k → k ≠ p.g from fun k hk e => by have := GL.out; omega)
      have NQ := Aside0.mk (show (Value.slice A1 l.length c).ownBlock ≠ some w6.heap.size from fun e => Nat.lt_irrefl _ (Kd.R_lt H6.out.row _ e))
      have BS := Aside0.mk (show p.B ≤ (w6.alloc (.cells #[.string x.f0, .string x.f1, .bool x.f2] 26)).drew.heap.size from Nat.le_trans H6.out.base BQ.out.size)
      refine start_ (n := 12) (S := fun w' => w'.cell? ⟨p.g, 0, none⟩ = some (.slice A1 l.length c) ∧ w'.cell? ⟨bx, 0, none⟩ = some (.string x.f0) ∧ w'.cell? ⟨bx, 1, none⟩ = some (.string x.f1) ∧ w'.cell? ⟨bx, 2, none⟩ = some (.bool x.f2)) (ds := [8, 11]) #[false, false, false, false, false, false, false, false, false, false, false, false] (by kernel_rfl) rfl rfl ⟨cell_dr cg, cell_dr b0, cell_dr b1, cell_dr b2⟩ (fun hHeld => ?_)
      refine pure_ (i := 0) (N := some 43) (v := ?_) (a' := ?_) #[true, false, false, false, false, false, false, false, false, false, false, false] rfl rfl (by kernel_rfl) (fun _ _ _ h => h) (Or.inl ⟨by rfl, ?_⟩) ?_ ?_
      rotate_left
      · intro w'
        go_simp
        with_reducible rfl
      rotate_left
      · simp only [Act.put, List.setIfInBounds_toArray, List.set_cons_zero, List.set_cons_succ, i64_w, i32_w]
        rfl
      refine pure_ (i := 1) (N := some 44) (v := ?_) (a' := ?_) #[true, true, false, false, false, false, false, false, false, false, false, false] rfl rfl (by kernel_rfl) (fun _ _ _ h => h) (Or.inl ⟨by rfl, ?_⟩) ?_ ?_
      rotate_left
      · intro w'
        go_simp
        with_reducible rfl
      rotate_left
      · simp only [Act.put, List.setIfInBounds_toArray, List.set_cons_zero, List.set_cons_succ, i64_w, i32_w]
        rfl
      refine pure_ (i := 2) (N := some 45) (v := ?_) (a' := ?_) #[true, true, true, false, false, false, false, false, false, false, false, false] rfl rfl (by kernel_rfl) (fun _ _ _ h => h) (Or.inl ⟨by rfl, ?_⟩) ?_ ?_
      rotate_left
      · intro w'
        go_simp
        with_reducible rfl
      rotate_left
      · simp only [Act.put, List.setIfInBounds_toArray, List.set_cons_zero, List.set_cons_succ, i64_w, i32_w]
        rfl
      refine pure_ (i := 3) (N := some 46) (v := ?_) (a' := ?_) #[true, true, true, true, false, false, false, false, false, false, false, false] rfl rfl (by kernel_rfl) (fun _ _ _ h => h) (Or.inl ⟨by rfl, ?_⟩) ?_ ?_
      rotate_left
      · intro w'
        go_simp
        with_reducible rfl
      rotate_left
      · simp only [Act.put, List.setIfInBounds_toArray, List.set_cons_zero, List.set_cons_succ, i64_w, i32_w]
        rfl
      refine pure_ (i := 5) (N := some 48) (v := ?_) (a' := ?_) #[true, true, true, true, false, true, false, false, false, false, false, false] rfl rfl (by kernel_rfl) (fun _ _ _ h => h) (Or.inl ⟨by rfl, ?_⟩) ?_ ?_
      rotate_left
      · intro w'
        go_simp
        with_reducible rfl
      rotate_left
      · simp only [Act.put, List.setIfInBounds_toArray, List.set_cons_zero, List.set_cons_succ, i64_w, i32_w]
        rfl
      refine take_ (i := 4) (N := some 47) (v := ?_) (a' := ?_) #[true, true, true, true, true, true, false, false, false, false, false, false] rfl rfl (by kernel_rfl) (fun _ _ _ h => h) (Or.inl ⟨by rfl, ?_⟩) hHeld ?_ ?_
      rotate_left
      · rintro w' ⟨s0, s1, s2, s3⟩
        go_simp
        with_reducible rfl
      rotate_left
      · simp only [Act.put, List.setIfInBounds_toArray, List.set_cons_zero, List.set_cons_succ, i64_w, i32_w]
        rfl
      refine take_ (i := 6) (N := some 49) (v := ?_) (a' := ?_) #[true, true, true, true, true, true, true, false, false, false, false, false] rfl rfl (by kernel_rfl) (fun _ _ _ h => h) (Or.inl ⟨by rfl, ?_⟩) hHeld ?_ ?_
      rotate_left
      · rintro w' ⟨s0, s1, s2, s3⟩
        go_simp
        with_reducible rfl
      rotate_left
      · simp only [Act.put, List.setIfInBounds_toArray, List.set_cons_zero, List.set_cons_succ, i64_w, i32_w]
        rfl
      refine one_ (i := 7) (N := some 50) #[true, true, true, true, true, true, true, true, false, false, false, false] rfl rfl (by kernel_rfl) (by decide) (fun K hK => ?_)
      refine value_ (w1 := ?_) (v := ?_) (by rfl) rfl ?_ ?_
      rotate_left 2
      · go_simp
        constructor
        · rfl
        · rfl
      refine hK.out _ _ ⟨cell_al _ hHeld.1, cell_al _ hHeld.2.1, cell_al _ hHeld.2.2.1, cell_al _ hHeld.2.2.2⟩ (fun hHeld => ?_)
      clear hK K
      refine norm_ (a' := ?_) ?_ ?_
      rotate_left
      · show Act.put _ (some 50) _ = _
        simp only [Act.put, List.setIfInBounds_toArray, List.set_cons_zero, List.set_cons_succ, i64_w, i32_w]
        rfl
      refine last_ (i := 8) (N := some 51) #[true, true, true, true, true, true, true, true, true, false, false, false] rfl rfl (by kernel_rfl) (by decide) (fun K hK => ?_)
      refine goes_ Try.func22 (by kernel_rfl) rfl #[.slice A1 l.length c, .int .i64 (n : Int), .slice (some ⟨w6.heap.size, 0, none⟩) 1 1] (by rfl) rfl rfl (by simp only [List.map_toArray, List.map_cons, List.map_nil]; rfl) ?_
      with_reducible refine (insert_calls _ p.B (fun k => k ≠ p.g) HF.out A1 c l RX.out H6.out.small n HN.out w6.heap.size x HQX.out NQ.out BS.out).mono ?_
      rintro e w8 ⟨v8, rfl, hR8, hB8, hG8⟩
      refine ⟨_, rfl, ?_⟩
      have hR8 : Kd.R k26 26 w8 p.B (fun k => k ≠ p.g) v8 (insC l n x) := hR8
      obtain ⟨A8, c8, rfl⟩ := Kd.R_slice hR8
      have g8 : w8.heap[p.g]? = some (.cells #[.slice A1 l.length c] 50 (0, 0)) := (hG8.block p.g GL.out NG.out).trans (blk_below H6.out.cells BQ.out)
      have s80 : w8.cell? ⟨p.g, 0, none⟩ = some (.slice A1 l.length c) := blk_cell g8 0
      have f80 : w8.frozen? ⟨p.g, 0, none⟩ = false := blk_frozen g8 0
      refine hK.out _ _ ?_
      clear hK K
      refine norm_ (a' := ?_) ?_ ?_
      rotate_left
      · show Act.put _ (some 51) _ = _
        simp only [Act.put, List.setIfInBounds_toArray, List.set_cons_zero, List.set_cons_succ, i64_w, i32_w]
        rfl
      refine pure_ (i := 9) (N := some 52) (v := ?_) (a' := ?_) #[true, true, true, true, true, true, true, true, true, true, false, false] rfl rfl (by kernel_rfl) (fun _ _ _ h => h) (Or.inl ⟨by rfl, ?_⟩) ?_ ?_
      rotate_left
      · intro w'
        go_simp
        with_reducible rfl
      rotate_left
      · simp only [Act.put, List.setIfInBounds_toArray, List.set_cons_zero, List.set_cons_succ, i64_w, i32_w]
        rfl
      refine pure_ (i := 10) (N := some 53) (v := ?_) (a' := ?_) #[true, true, true, true, true, true, true, true, true, true, true, false] rfl rfl (by kernel_rfl) (fun _ _ _ h => h) (Or.inl ⟨by rfl, ?_⟩) ?_ ?_
      rotate_left
      · intro w'
        go_simp
        with_reducible rfl
      rotate_left
      · simp only [Act.put, List.setIfInBounds_toArray, List.set_cons_zero, List.set_cons_succ, i64_w, i32_w]
        rfl
      refine last_ (i := 11) (N := none) #[true, true, true, true, true, true, true, true, true, true, true, true] rfl rfl (by kernel_rfl) (by decide) (fun K hK => ?_)
      refine skip_ (w1 := ?_) (by rfl) rfl ?_ ?_
      rotate_left
      · go_simp
        rfl
      refine hK.out _ _ ?_
      clear hK K
      refine done_ (by kernel_rfl) ?_
      have HR8 := Aside0.mk hR8
      have HB8 := Aside0.mk (show Below p.B w w8 from (HB6.out.mono BB0.out).trans ((BQ.out.mono H6.out.base).trans hB8))
      have T8 := Aside0.mk (show Ch (w8.setCell ⟨p.g, 0, none⟩ (.slice A8 (insC l n x).length c8)) p (.slice A8 (insC l n x).length c8) (insC l n x) from
        ⟨blk_set g8 0 _, Kd.R_far hR8 (p := ⟨p.g, 0, none⟩) (fun k hk => hk) _, H6.out.bg, by rw [insC_length _ _ _ HN.out]; exact HS.out⟩)
      have F8 := Aside0.mk (show Far p.g (Value.slice A1 l.length c).ownBlock w (w8.setCell ⟨p.g, 0, none⟩ (.slice A8 (insC l n x).length c8)) from fun q hq h1 h2 => (Below.heap_setCell _ _ _ _ h1).trans ((hG8.block q (Nat.lt_of_lt_of_le hq (below_step HB6.out BQ.out).size) h2).trans ((below_step HB6.out BQ.out).block q hq)))
      clear hHeld hR8 hB8 hG8 g8 s80 f80
      go_wp2
      (first | go_end0 | ((try simp only [Exit.inBlock, Exit.then]); refine bodyPost_ret (results_none rfl _ _ _) rfl ?_))
      exact ⟨rfl, ⟨_, by rw [PE.out]; exact T8.out⟩, HB8.out.setCell (p := ⟨p.g, 0, none⟩) H6.out.bg _, by first | exact F8.out | (rw [HA.out]; exact F8.out)⟩
end Go.Proofs.Ytdkepbmpcbnkpaa.Dl
