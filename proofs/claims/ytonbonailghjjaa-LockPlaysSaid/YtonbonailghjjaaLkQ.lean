/- The law LockPlays, walked. -/
import Derived.Test.YtonbonailghjjaaLkP
namespace Go.Proofs.Ytonbonailghjjaa.Lk
open Go.RowKit Go.Proofs.YtonbonailghjjaaW.PrintWords Go.Proofs.YtonbonailghjjaaW.PrintLast Go.Proofs.YtonbonailghjjaaW.PrintMore Go.Proofs.Ytonbonailghjjaa.XB Go.Proofs.Ytonbonailghjjaa.PLockMost
attribute [local go_sem] max2_int min2_int max_two min_two max_three min_three max_four min_four
set_option linter.unusedVariables false
set_option linter.unusedSimpArgs false
variable {l : List S51} {m : Nat → Nat → Int} {w w' : World} {p : At} {rv : Value}
structure S31 where
  f0 : Int
  f1 : Int
  f2 : Bool
  f3 : Bool
def z31 : S31 := ⟨0, 0, false, false⟩
def k31 : Kd S31 := Kd.iso (Kd.pair (Kd.int .i64) (Kd.pair (Kd.int .i64) (Kd.pair Kd.bool Kd.bool))) (fun x : S31 => (x.f0, x.f1, x.f2, x.f3))
theorem k31_open {w : World} {x : S31} {cs : List Value} (h : k31.K w x cs) : cs = [.int .i64 x.f0, .int .i64 x.f1, .bool x.f2, .bool x.f3] := by
  obtain ⟨_, _, rfl, rfl, ⟨_, _, rfl, rfl, ⟨_, _, rfl, rfl, rfl⟩⟩⟩ := h
  exact rfl
theorem k31_mk (w : World) (x : S31) : k31.K w x [.int .i64 x.f0, .int .i64 x.f1, .bool x.f2, .bool x.f3] := ⟨[.int .i64 x.f0], [.int .i64 x.f1, .bool x.f2, .bool x.f3], rfl, rfl, ⟨[.int .i64 x.f1], [.bool x.f2, .bool x.f3], rfl, rfl, ⟨[.bool x.f2], [.bool x.f3], rfl, rfl, rfl⟩⟩⟩
def rd_T31 (xs : List S31) (i : Int) : S31 := xs.getD i.toNat z31
theorem at_T31 {w : World} {A : Option Addr} {n : Nat} {xs : List S31} (h : Kd.C k31 w A n xs) (i : Int) (h0 : 0 ≤ i) (h1 : i < n) : ∃ ad , A = some ad ∧ w.cell? (ad.add (i.toNat * 4)) = some (.int .i64 (rd_T31 xs i).f0) ∧ w.cell? ⟨(ad.add (i.toNat * 4)).block, (ad.add (i.toNat * 4)).off + 1, none⟩ = some (.int .i64 (rd_T31 xs i).f1) ∧ w.cell? ⟨(ad.add (i.toNat * 4)).block, (ad.add (i.toNat * 4)).off + 2, none⟩ = some (.bool (rd_T31 xs i).f2) ∧ w.cell? ⟨(ad.add (i.toNat * 4)).block, (ad.add (i.toNat * 4)).off + 3, none⟩ = some (.bool (rd_T31 xs i).f3) := by
  obtain ⟨ad, c, e, _, hK, hc0⟩ := Kd.C_get h z31 i h0 h1
  have hc : ∀ j u, c[j]? = some u → w.cell? (ad.add (i.toNat * 4 + j)) = some u := hc0
  obtain rfl := k31_open hK
  exact ⟨ad, e, hc 0 _ rfl, by rw [← add_field _ _ 1 (by omega)]; exact hc 1 _ rfl, by rw [← add_field _ _ 2 (by omega)]; exact hc 2 _ rfl, by rw [← add_field _ _ 3 (by omega)]; exact hc 3 _ rfl⟩
/-- the six names -/
def nmC (k : Nat) : ByteArray := ⟨#[UInt8.ofNat (97 + k)]⟩
theorem names_C : Names nmC := by
  have e : ∀ k, (nmC k).toList = [UInt8.ofNat (97 + k)] := fun k => by rw [toList_data]; rfl
  refine ⟨fun a b ha hb h => ?_, fun k hk => by rw [e]; exact List.cons_ne_nil _ _⟩
  rw [e, e] at h
  have h2 : UInt8.ofNat (97 + a) = UInt8.ofNat (97 + b) := List.head_eq_of_cons_eq h
  have h3 := congrArg UInt8.toNat h2
  rw [UInt8.toNat_ofNat_of_lt' (by show 97 + a < 256; omega), UInt8.toNat_ofNat_of_lt' (by show 97 + b < 256; omega)] at h3
  omega
/-- the matrix of nobody -/
def cs0 : Array Value := Array.replicate 96 (.int .i64 0)
theorem zero27 (W : World) : (zeroValue 27).run Try.prog W = .ok (.agg cs0) W := by
  have hi : (Try.prog.info? 27).map (fun i => i.zero) = some (some (.agg cs0)) := by kernel_rfl
  cases hq : Try.prog.info? 27 with
  | none => rw [hq] at hi; cases hi
  | some i =>
    rw [hq] at hi
    have hz : i.zero = some (.agg cs0) := Option.some.inj hi
    simp [zeroValue, typeInfo, hq, hz]
theorem size27 : (Try.prog.info? 27).map (·.size) = some 96 := by kernel_rfl
theorem mat0 : Mat cs0 (fun _ _ => 0) := by
  refine ⟨by unfold cs0; simp, fun i k hi hk => ?_⟩
  unfold cs0
  rw [Array.getElem?_replicate, if_pos (by omega)]
theorem mat_load {cs : Array Value} (h : Mat cs m) {g : Nat} {W : World} (hg : W.heap[g]? = some (.cells cs 27 (0, 0))) : (Instr.loadAt 27 (.pointer (some ⟨g, 0, none⟩))).run Try.prog W = .ok (.agg cs) W := by
  have := run_loadAt_mid (P := Try.prog) W g 0 27 cs.toList (.array 16 25) (fun j v hj => by rw [Nat.zero_add, blk_cell hg j, ← Array.getElem?_toList]; exact hj) Try.underlying27 rfl (by rw [size27, Array.length_toList, h.size])
  rwa [Array.toArray_toList] at this
theorem mat_store0 {g : Nat} {W : World} (hg : W.heap[g]? = some (.cells cs0 27 (0, 0))) : (storeCells ⟨g, 0, none⟩ cs0.toList).run Try.prog W = .ok () (W.setCells g 0 cs0.toList) := by
  have := run_storeCells_cells (P := Try.prog) g 0 cs0.toList 0 W (fun j hj => by
    rw [Nat.add_zero, Nat.zero_add, blk_cell hg j, Array.getElem?_eq_getElem (by simpa using hj)]; rfl) (fun j hj => blk_frozen hg _) (fun v hv => by
    unfold cs0 at hv
    rw [Array.toList_replicate, List.mem_replicate] at hv
    rw [hv.2]; rfl)
  simpa using this
theorem set0 {g : Nat} {W : World} (hg : W.heap[g]? = some (.cells cs0 27 (0, 0))) : (W.setCells g 0 cs0.toList).heap[g]? = some (.cells cs0 27 (0, 0)) := by
  obtain ⟨c2, h4, h5, h6⟩ := setCells_row cs0.toList 0 W cs0 hg (by rw [Nat.zero_add, Array.length_toList]; exact Nat.le_refl _)
  have e : c2 = cs0 := by
    apply Array.toList_inj.mp
    rw [h6, Nat.zero_add, List.drop_of_length_le (Nat.le_refl _)]
    simp
  rw [h4, e]
/-- the law's state: table, matrix, names -/
structure St (p : At) (mb gn : Nat) (w0 : World) (l : List S51) (rv : Value) (m : Nat → Nat → Int) (cs : Array Value) (mc : Nat → Nat → Int) (W : World) : Prop where
  tab : Tab W p rv l
  inv : Inv nmC l m
  mat : Mat cs mc
  cel : W.heap[mb]? = some (.cells cs 27 (0, 0))
  nam : ∃ nms, W.heap[gn]? = some (.cells nms 9 (0, 0)) ∧ ∀ k, k < 6 → nms[k]? = some (.string (nmC k))
  bel : Below p.B w0 W
  mbB : p.B ≤ mb
section
variable {mb gn : Nat} {w0 W W' : World} {cs : Array Value} {mc : Nat → Nat → Int}
theorem St.below (h : St p mb gn w0 l rv m cs mc W) (hb : Below W.heap.size W W') : St p mb gn w0 l rv m cs mc W' :=
  ⟨h.tab.below hb, h.inv, h.mat, blk_below h.cel hb, h.nam.imp (fun nms hn => ⟨blk_below hn.1 hb, hn.2⟩), h.bel.trans (hb.mono h.tab.base), h.mbB⟩
theorem k51_E27 : ∀ q, q ∈ (51 : Nat) :: k51.E → q ≠ 27 := by decide
theorem k51_E31 : ∀ q, q ∈ (51 : Nat) :: k51.E → q ≠ 31 := by decide
theorem k51_E9 : ∀ q, q ∈ (51 : Nat) :: k51.E → q ≠ 9 := by decide
theorem St.far (h : St p mb gn w0 l rv m cs mc W) {l' : List S51} {rv' : Value} {m' : Nat → Nat → Int} (hT : Tab W' p rv' l') (hI : Inv nmC l' m') (hb : Below p.B W W') (hF : Far p.g rv.ownBlock W W') : St p mb gn w0 l' rv' m' cs mc W' := by
  refine ⟨hT, hI, h.mat, ?_, ?_, h.bel.trans hb, h.mbB⟩
  · refine (hF mb (blk_lt h.cel) (blk_ne h.cel h.tab.cells (by decide)) ?_).trans h.cel
    exact fun e => ((Kd.R_types h.tab.row h.cel k51_E27).1 mb e.symm).2 rfl
  · obtain ⟨nms, h1, h2⟩ := h.nam
    refine ⟨nms, (hF gn (blk_lt h1) (blk_ne h1 h.tab.cells (by decide)) ?_).trans h1, h2⟩
    exact fun e => ((Kd.R_types h.tab.row h1 k51_E9).1 gn e.symm).2 rfl
theorem St.put (h : St p mb gn w0 l rv m cs mc W) (i k : Nat) (hi : i < 16) (hk : k < 6) (v : Int) : St p mb gn w0 l rv m (cs.setIfInBounds (i * 6 + k) (.int .i64 v)) (setM mc i k v) (W.setCell ⟨mb, i * 6 + k, none⟩ (.int .i64 v)) := by
  have hne := blk_ne h.tab.cells h.cel (by decide)
  refine ⟨⟨blk_far h.tab.cells hne _, Kd.R_set h.tab.row h.cel k51_E27 _ _, h.tab.bg, h.tab.small, h.tab.wide⟩, h.inv, h.mat.set i k hi hk v, blk_set h.cel _ _, ?_, h.bel.setCell (p := ⟨mb, i * 6 + k, none⟩) h.mbB _, h.mbB⟩
  obtain ⟨nms, h1, h2⟩ := h.nam
  exact ⟨nms, blk_far h1 (blk_ne h1 h.cel (by decide)) _, h2⟩
theorem St.name (h : St p mb gn w0 l rv m cs mc W) (k : Nat) (hk : k < 6) : W.cell? ⟨gn, k, none⟩ = some (.string (nmC k)) := by
  obtain ⟨nms, h1, h2⟩ := h.nam
  exact (blk_cell h1 k).trans (h2 k hk)
theorem St.cell (h : St p mb gn w0 l rv m cs mc W) (i k : Nat) (hi : i < 16) (hk : k < 6) : W.cell? ⟨mb, i * 6 + k, none⟩ = some (.int .i64 (mc i k)) := (blk_cell h.cel _).trans (h.mat.at_ i k hi hk)
theorem St.fits (h : St p mb gn w0 l rv m cs mc W) : Fits l m nmC := h.inv.fits names_C
theorem St.list (h : St p mb gn w0 l rv m cs mc W) : ∃ csl : List Value, St p mb gn w0 l rv m csl.toArray mc W := ⟨cs.toList, by rw [Array.toArray_toList]; exact h⟩
theorem St.ofm (h : St p mb gn w0 l rv m cs mc W) {m' : Nat → Nat → Int} (e : m' = m) : St p mb gn w0 l rv m' cs mc W := e ▸ h
end
theorem set_set (m : Nat → Nat → Int) (i k : Nat) (u v : Int) : setM (setM m i k u) i k v = setM m i k v := by
  funext a b
  show (if a = i ∧ b = k then v else (if a = i ∧ b = k then u else m a b)) = (if a = i ∧ b = k then v else m a b)
  split <;> rfl
theorem rem6 (x : Int) : ∃ (r1 r2 : Int) (k : Nat), k < 6 ∧ x.tmod 6 = r1 ∧ wrap64 (r1 + 6) = r2 ∧ r2.tmod 6 = (k : Int) := by
  have h1 : x.tmod 6 < 6 := Int.tmod_lt_of_pos x (by decide)
  have h2 : -6 < x.tmod 6 := Int.lt_tmod_of_pos x (by decide)
  refine ⟨x.tmod 6, x.tmod 6 + 6, ((x.tmod 6 + 6) % 6).toNat, by omega, rfl, w64 (by omega) (by omega), ?_⟩
  rw [Int.tmod_eq_emod_of_nonneg (by omega)]
  omega
set_option maxHeartbeats 40000000 in
set_option maxRecDepth 100000 in
theorem plays_law (A : Option Addr) (c : Nat) (acts : List S31) (w : World) (hC : Kd.C k31 w A acts.length acts) :
    Calls Try.prog 3 #[.slice A acts.length c] w fun e w' => e = .returned (.bool true) ∧ Below w.heap.size w w' := by
  have HC := Aside0.mk hC
  clear hC
  go_enter Try.func3, Try.ntmps3
  go_wp2_with (first | (go_at_call 5; fail))
  refine (new_calls _).mono ?_
  rintro e w1 ⟨rfl, hT, hb⟩
  have HT := Aside0.mk hT
  have HB := Aside0.mk hb
  clear hT hb
  have hz := zero27 w1
  have hg1 := heap_alloc_new w1 (.cells cs0 27)
  have hs := mat_store0 hg1
  have G1 := Aside0.mk (set0 hg1)
  clear hg1
  obtain ⟨Z, hZ⟩ : ∃ Z, cs0 = Z := ⟨_, rfl⟩
  have EZ := Aside0.mk hZ
  have hzs : Z.size = 96 := by rw [← hZ]; exact mat0.size
  rw [hZ] at hz hs G1
  clear hZ
  go_wp2_with (first | (go_at_call 6; fail))
  have BZ := Aside0.mk (show Below w1.heap.size w1 ((w1.alloc (.cells Z 27)).setCells w1.heap.size 0 Z.toList) from below_setCells (below_alloc (Below.refl _ _) _) (Nat.le_refl _) 0 _)
  obtain ⟨W2, hW2⟩ : ∃ W, (w1.alloc (.cells Z 27)).setCells w1.heap.size 0 Z.toList = W := ⟨_, rfl⟩
  rw [hW2] at G1 BZ ⊢
  clear hW2 hs hz hzs
  have hnn := heap_alloc_new W2 (.cells #[.string ⟨#[97]⟩, .string ⟨#[98]⟩, .string ⟨#[99]⟩, .string ⟨#[100]⟩, .string ⟨#[101]⟩, .string ⟨#[102]⟩] 9)
  have NN := Aside0.mk hnn
  clear hnn
  refine (awake_calls _).mono ?_
  rintro e w3 ⟨rfl, hb⟩
  have SS := Aside0.mk (show St ⟨w.heap.size, w.heap.size⟩ w1.heap.size W2.heap.size w [] (.slice none 0 0) (fun _ _ => 0) Z (fun _ _ => 0) w3 from by
    have hb2 : Below W2.heap.size W2 w3 := below_step (below_alloc (Below.refl _ _) _) hb
    refine ⟨(HT.out.below BZ.out).below hb2, Inv.nil _, EZ.out ▸ mat0, blk_below G1.out hb2, ⟨_, blk_below NN.out hb, fun k hk => ?_⟩, below_step HB.out (below_step BZ.out hb2), HB.out.size⟩
    match k, hk with
    | 0, _ => rfl
    | 1, _ => rfl
    | 2, _ => rfl
    | 3, _ => rfl
    | 4, _ => rfl
    | 5, _ => rfl)
  clear hb HT HB G1 BZ NN EZ
  obtain ⟨mb, hmb⟩ : ∃ mb, w1.heap.size = mb := ⟨_, rfl⟩
  obtain ⟨gn, hgn⟩ : ∃ gn, W2.heap.size = gn := ⟨_, rfl⟩
  obtain ⟨g, hg⟩ : ∃ g, w.heap.size = g := ⟨_, rfl⟩
  have EG := Aside0.mk hg
  rw [hmb, hgn, hg] at SS ⊢
  clear hmb hgn hg
  go_wp2
  go_loopw [6] (fun i w' => ∃ j : Nat, j ≤ acts.length ∧ i = .int .i64 (j : Int) ∧ ∃ l rv m cs, Aside0 (St ⟨g, g⟩ mb gn w l rv m cs m w')) (fun i _ => acts.length - (intOf i).toNat)
  case atStart => exact ⟨0, Nat.zero_le _, rfl, _, _, _, _, SS⟩
  case round =>
    clear SS
    obtain ⟨j, hj, rfl, l, rv, m, cs, SS⟩ := hrel
    by_cases hlt : j < acts.length ∧ j < 80
    · have q0 : decide ((j : Int) < (acts.length : Int)) = true := decide_eq_true (by omega)
      have q1 : decide (j < acts.length) = true := decide_eq_true hlt.1
      have q2 : decide ((j : Int) < 80) = true := decide_eq_true (by omega)
      have q3 : decide (j < 80) = true := decide_eq_true hlt.2
      have j0 : (0 : Int) ≤ (j : Int) := by omega
      have j1 : (j : Int) < (acts.length : Int) := by omega
      have hlt2 := hlt.1
      have JW := Aside0.mk (show wrap64 ((j : Int) + 1) = (j : Int) + 1 from w64 (by omega) (by omega))
      obtain ⟨ad, hA, y0, y1, y2, y3⟩ := at_T31 (Kd.C_below HC.out (EG.out ▸ SS.out.bel)) (j : Int) j0 j1
      rw [Int.toNat_natCast] at y0 y1 y2 y3
      subst hA
      obtain ⟨a, ha⟩ : ∃ a, rd_T31 acts (j : Int) = a := ⟨_, rfl⟩
      rw [ha] at y0 y1 y2 y3
      obtain ⟨who, what, al, fr⟩ := a
      clear ha hlt
      obtain ⟨r1, r2, k, hk, e1, e2, e3⟩ := rem6 what
      have EX := Aside0.mk hk
      by_cases hin : 0 ≤ who ∧ who < 16
      · obtain ⟨i, rfl⟩ : ∃ i : Nat, who = (i : Int) := ⟨who.toNat, by omega⟩
        have hi : i < 16 := by omega
        have g0 : (0 : Int) ≤ (i : Int) := by omega
        have g1 : decide ((0 : Int) ≤ (i : Int)) = true := decide_eq_true g0
        have g2 : (i : Int) < 16 := by omega
        have g3 : decide ((i : Int) < 16) = true := decide_eq_true g2
        have g4 : decide (i < 16) = true := decide_eq_true hi
        clear hin
        cases fr with
        | true =>
          have SB := Aside0.mk (SS.out.below (below_alloc (Below.refl _ _) (.cells #[.int .i64 (i : Int), .int .i64 what, .bool al, .bool true] 31)))
          clear SS
          go_wp2
          go_loopw [11, 12] (fun n x w' => ∃ y : Nat, y ≤ 6 ∧ n = .int .i64 (cnt m i y : Nat) ∧ x = .int .i64 (y : Int) ∧ ∃ cs', Aside0 (St ⟨g, g⟩ mb gn w l rv m cs' (zeroTo m i y) w')) (fun _ x _ => 6 - (intOf x).toNat)
          case atStart => exact ⟨0, Nat.zero_le _, rfl, rfl, _, .mk (by rw [zeroTo_zero]; exact SB.out)⟩
          case round =>
            clear SB
            obtain ⟨y, hy, rfl, rfl, cs', SB⟩ := hrel
            have cl := cnt_le m i y
            by_cases hly : y < 6
            · have y0 : decide ((y : Int) < 6) = true := decide_eq_true (by omega)
              have y1 : decide (y < 6) = true := decide_eq_true hly
              have y2 : (0 : Int) ≤ (y : Int) := by omega
              have y3 : (y : Int) < 6 := by omega
              have mcl := SB.out.cell i y hi hly
              rw [zeroTo_at] at mcl
              have mfr : wr.frozen? ⟨mb, i * 6 + y, none⟩ = false := blk_frozen SB.out.cel _
              have SC := Aside0.mk ((zeroTo_succ m i y).symm ▸ SB.out.put i y hi hly 0)
              have hcs := Aside0.mk (cnt_succ m i y)
              obtain ⟨v, hv⟩ : ∃ v, m i y = v := ⟨_, rfl⟩
              rw [hv] at mcl hcs
              obtain ⟨cn, hcn⟩ : ∃ cn, cnt m i y = cn := ⟨_, rfl⟩
              rw [hcn] at hcs cl ⊢
              clear hcn hv SB
              by_cases h0 : 0 < v
              · have v0 : decide (0 < v) = true := decide_eq_true h0
                rw [if_pos h0] at hcs
                go_wp2
                exact ⟨⟨y + 1, hly, by rw [hcs.out]; first | rfl | go_num, by go_num, _, SC⟩, meas6 hly⟩
              · have v0 : decide (0 < v) = false := decide_eq_false h0
                rw [if_neg h0] at hcs
                go_wp2
                exact ⟨⟨y + 1, hly, by rw [hcs.out]; rfl, by go_num, _, SC⟩, meas6 hly⟩
            · obtain rfl : y = 6 := by omega
              have y0 : decide (((6 : Nat) : Int) < 6) = false := by decide
              have y1 : decide ((6 : Int) < 6) = false := by decide
              obtain ⟨cn, hcn⟩ : ∃ cn, cnt m i 6 = cn := ⟨_, rfl⟩
              have ECN := Aside0.mk hcn
              rw [hcn]
              clear hcn cl
              have cc : ((cn : Int) == (cn : Int)) = true := beq_self_eq_true _
              go_wp2_with (first | (go_at_call 7; fail))
              refine (free_inv SB.out.tab names_C SB.out.inv i hi).mono ?_
              rw [ECN.out]
              rintro e w6 ⟨rfl, ⟨l6, rv6, hT6, hI6⟩, hb6, hF6⟩
              have S6 := Aside0.mk (SB.out.far hT6 hI6 hb6 hF6)
              clear hT6 hI6 hb6 hF6 SB
              go_wp2
              rw [JW.out]
              go_roundw
              case measure => exact measn hlt2
              case rel => exact ⟨j + 1, hlt2, by go_num, _, _, _, _, S6⟩
        | false =>
          as_aux_lemma =>
            obtain ⟨ab, hab⟩ : ∃ ab, wr.heap.size = ab := ⟨_, rfl⟩
            have B1 := below_alloc (below_alloc (Below.refl wr.heap.size wr) (.cells #[.int .i64 (i : Int), .int .i64 what, .bool al, .bool false] 31)) (.cells #[] 3)
            have X1 := blk_alloc (heap_alloc_new wr (.cells #[.int .i64 (i : Int), .int .i64 what, .bool al, .bool false] 31)) (.cells #[] 3)
            have X2 := heap_alloc_new (wr.alloc (.cells #[.int .i64 (i : Int), .int .i64 what, .bool al, .bool false] 31)) (.cells #[] 3)
            rw [World.size_alloc] at X2
            rw [hab] at X1 X2 B1
            have R0 := Aside0.mk (ints_row (base := ab + 1) (cap := 0) (ok := fun _ => True) (ws := []) X2 (Nat.le_refl _) trivial rfl (Nat.le_refl _) (Nat.zero_le _) rfl rfl)
            have BW1 := Aside0.mk B1
            have BXC := Aside0.mk X1
            have EAB := Aside0.mk hab
            have y4 : (0 : Int) ≤ (k : Int) := by omega
            have y5 : (k : Int) < 6 := by omega
            clear X1 X2 B1
            go_wp2
            obtain ⟨wS, hwS⟩ : ∃ W, (wr.alloc (.cells #[.int .i64 (i : Int), .int .i64 what, .bool al, .bool false] 31)).alloc (.cells #[] 3) = W := ⟨_, rfl⟩
            rw [hwS] at R0 BW1 BXC ⊢
            clear hwS hab y0 y1 y2 y3
            have SK := Aside0.mk (show ∀ W, Below (ab + 1) wS W → St ⟨g, g⟩ mb gn w l rv m cs m W from fun W hW => SS.out.below (by rw [EAB.out]; exact BW1.out.trans (hW.mono (Nat.le_succ _))))
            have BK := Aside0.mk (show ∀ W, Below (ab + 1) wS W → W.heap[ab]? = some (.cells #[.int .i64 (i : Int), .int .i64 what, .bool al, .bool false] 31 (0, 0)) from fun W hW => (hW.block ab (Nat.lt_succ_self _)).trans BXC.out)
            have SZ := Aside0.mk (show ab < wS.heap.size from blk_lt BXC.out)
            have OWN := Aside0.mk (show ∀ q, rv.ownBlock = some q → q < ab from fun q hq => EAB.out ▸ Kd.R_lt SS.out.tab.row q hq)
            have GLT := Aside0.mk (show g < ab from EAB.out ▸ blk_lt SS.out.tab.cells)
            clear SS BW1 BXC
            go_loopw [14, 15] (fun u x w' => ∃ n : Nat, n ≤ 16 ∧ u = .bool (any2 m k n) ∧ x = .int .i64 (n : Int) ∧ Aside0 (Below (ab + 1) wS w' ∧ Kd.R (Kd.int .i64) 3 w' (ab + 1) (fun _ => True) (.slice (some ⟨ab + 1, 0, none⟩) 0 0) [])) (fun _ x _ => 16 - (intOf x).toNat)
            case atStart => exact ⟨0, Nat.zero_le _, rfl, rfl, .mk ⟨Below.refl _ _, R0.out⟩⟩
            case round =>
              clear R0
              obtain ⟨n, hn, rfl, rfl, WI⟩ := hrel
              by_cases hln : n < 16
              · have n0 : decide ((n : Int) < 16) = true := decide_eq_true (by omega)
                have n1 : decide (n < 16) = true := decide_eq_true hln
                have n2 : (0 : Int) ≤ (n : Int) := by omega
                have n3 : (n : Int) < 16 := by omega
                have mcl := (SK.out _ WI.out.1).cell n k hln hk
                have hA := Aside0.mk (any2_succ m k n)
                obtain ⟨v, hv⟩ : ∃ v, m n k = v := ⟨_, rfl⟩
                rw [hv] at mcl hA
                obtain ⟨bb, hbb⟩ : ∃ bb, any2 m k n = bb := ⟨_, rfl⟩
                rw [hbb] at hA ⊢
                clear hbb hv
                cases bb with
                | true =>
                  go_wp2
                  exact ⟨⟨n + 1, hln, by rw [hA.out]; rfl, by go_num, WI⟩, meas6 hln⟩
                | false =>
                  go_wp2
                  exact ⟨⟨n + 1, hln, by rw [hA.out]; rfl, by go_num, WI⟩, meas6 hln⟩
              · obtain rfl : n = 16 := by omega
                have n0 : decide (((16 : Nat) : Int) < 16) = false := by decide
                have n1 : decide ((16 : Int) < 16) = false := by decide
                rw [show ((16 : Nat) : Int) = 16 from rfl]
                obtain ⟨T2, hT2⟩ : ∃ T2, any2 m k 16 = T2 := ⟨_, rfl⟩
                have ET2 := Aside0.mk hT2
                rw [hT2]
                clear hT2
                go_wp2
                go_loopw [13, 16] (fun u x w' => ∃ n : Nat, n ≤ 16 ∧ x = .int .i64 (n : Int) ∧ ∃ A c, u = .slice A (wantM m (i : Int) k al n).length c ∧ Aside0 (Below (ab + 1) wS w' ∧ Kd.R (Kd.int .i64) 3 w' (ab + 1) (fun _ => True) (.slice A (wantM m (i : Int) k al n).length c) (wantM m (i : Int) k al n))) (fun _ x _ => 16 - (intOf x).toNat)
                case atStart => exact ⟨0, Nat.zero_le _, rfl, _, _, by rw [wantM_zero]; rfl, .mk (by rw [wantM_zero]; exact WI.out)⟩
                case round =>
                  clear WI
                  obtain ⟨n, hn, rfl, A4, c4, rfl, WI⟩ := hrel
                  by_cases hln : n < 16
                  · have n0 : decide ((n : Int) < 16) = true := decide_eq_true (by omega)
                    have n1 : decide (n < 16) = true := decide_eq_true hln
                    have n2 : (0 : Int) ≤ (n : Int) := by omega
                    have n3 : (n : Int) < 16 := by omega
                    have mcl := (SK.out _ WI.out.1).cell n k hln hk
                    have bxc : wr.cell? ⟨ab, 2, none⟩ = some (.bool al) := blk_cell (BK.out _ WI.out.1) 2
                    have hWs := Aside0.mk (wantM_succ m (i : Int) k n al)
                    have hval := Aside0.mk ((SK.out _ WI.out.1).inv.val n k hln hk)
                    obtain ⟨v, hv⟩ : ∃ v, m n k = v := ⟨_, rfl⟩
                    rw [hv] at mcl hWs hval
                    rw [ET2.out] at hWs
                    have hle := Aside0.mk (wantM_le m (i : Int) k n al)
                    clear hv
                    by_cases h0 : 0 < v
                    · have v0 : decide (0 < v) = true := decide_eq_true h0
                      have hv0 : v ≠ 0 := by omega
                      by_cases h2 : (n : Int) = (i : Int)
                      · obtain rfl : n = i := by omega
                        have hE := Aside0.mk (show wantM m (n : Int) k al (n + 1) = wantM m (n : Int) k al n from by rw [hWs.out, if_neg (fun d => d.1.2 rfl), List.append_nil])
                        clear h2
                        go_wp2
                        exact ⟨⟨n + 1, hln, by go_num, A4, c4, by rw [hE.out], by rw [hE.out]; exact WI⟩, meas6 hln⟩
                      · have v1 : ((n : Int) == (i : Int)) = false := beq_eq_false_iff_ne.mpr h2
                        cases al with
                        | true =>
                          have hE := Aside0.mk (show wantM m (i : Int) k true (n + 1) = wantM m (i : Int) k true n ++ [(n : Int)] from by rw [hWs.out, if_pos ⟨⟨hv0, h2⟩, rfl⟩])
                          have hnq := heap_alloc_new wr (.cells #[.int .i64 (n : Int)] 3)
                          have ONE := Aside0.mk (Kd.R_reads' (ints_row (base := 0) (cap := 1) (n := 1) (ok := fun _ => True) (ws := [(n : Int)]) hnq (Nat.zero_le _) trivial rfl (Nat.le_refl _) (by decide) rfl rfl)).2.2
                          clear hnq
                          obtain ⟨L, hL⟩ : ∃ L, wantM m (i : Int) k true n = L := ⟨_, rfl⟩
                          rw [hL] at hE WI hle ⊢
                          clear hL
                          go_wp2_with ((with_reducible refine gate_builtin (b := .append) (xs := #[.tmp 114, .tmp 116]) rfl ?_); at_builtin; refine Kd.R_append_row (Value.int .i64) 0 (h1 := fun _ => rfl) (w0 := wS) (ab + 1) rfl (.tmp 114) (.tmp 116) 33 3 (.int .i64 0) 8 rfl Try.underlying33 info3 rfl (by decide) (.slice A4 L.length c4) L [(n : Int)] (some ⟨wr.heap.size, 0, none⟩) 1 1 (fun _ => True) rfl rfl ?aF ?aO ?aR ?aB ?aS ?aL ?_)
                          case aF => exact fun _ _ => trivial
                          case aO => exact Kd.R_below WI.out.2 (below_alloc (Below.refl _ _) _)
                          case aR => exact ONE.out
                          case aB => exact WI.out.1.alloc (by have := WI.out.1.size; have := SZ.out; omega) _
                          case aS => rw [World.size_alloc]; have := WI.out.1.size; have := SZ.out; omega
                          case aL => have := hle.out; omega
                          intro v5 w5 hR5 hB5 hG5 hO5
                          obtain ⟨A5, c5, rfl⟩ := Kd.R_slice hR5
                          have H5 := Aside0.mk (And.intro hB5 hR5)
                          clear hR5 hB5 hG5 hO5
                          go_wp2
                          exact ⟨⟨n + 1, hln, by go_num, A5, c5, by rw [hE.out], by rw [hE.out]; exact H5⟩, meas6 hln⟩
                        | false =>
                          cases T2 with
                          | true =>
                            have hE := Aside0.mk (show wantM m (i : Int) k false (n + 1) = wantM m (i : Int) k false n ++ [(n : Int)] from by rw [hWs.out, if_pos ⟨⟨hv0, h2⟩, rfl⟩])
                            have hnq := heap_alloc_new wr (.cells #[.int .i64 (n : Int)] 3)
                            have ONE := Aside0.mk (Kd.R_reads' (ints_row (base := 0) (cap := 1) (n := 1) (ok := fun _ => True) (ws := [(n : Int)]) hnq (Nat.zero_le _) trivial rfl (Nat.le_refl _) (by decide) rfl rfl)).2.2
                            clear hnq
                            obtain ⟨L, hL⟩ : ∃ L, wantM m (i : Int) k false n = L := ⟨_, rfl⟩
                            rw [hL] at hE WI hle ⊢
                            clear hL
                            go_wp2_with ((with_reducible refine gate_builtin (b := .append) (xs := #[.tmp 114, .tmp 116]) rfl ?_); at_builtin; refine Kd.R_append_row (Value.int .i64) 0 (h1 := fun _ => rfl) (w0 := wS) (ab + 1) rfl (.tmp 114) (.tmp 116) 33 3 (.int .i64 0) 8 rfl Try.underlying33 info3 rfl (by decide) (.slice A4 L.length c4) L [(n : Int)] (some ⟨wr.heap.size, 0, none⟩) 1 1 (fun _ => True) rfl rfl ?aF ?aO ?aR ?aB ?aS ?aL ?_)
                            case aF => exact fun _ _ => trivial
                            case aO => exact Kd.R_below WI.out.2 (below_alloc (Below.refl _ _) _)
                            case aR => exact ONE.out
                            case aB => exact WI.out.1.alloc (by have := WI.out.1.size; have := SZ.out; omega) _
                            case aS => rw [World.size_alloc]; have := WI.out.1.size; have := SZ.out; omega
                            case aL => have := hle.out; omega
                            intro v5 w5 hR5 hB5 hG5 hO5
                            obtain ⟨A5, c5, rfl⟩ := Kd.R_slice hR5
                            have H5 := Aside0.mk (And.intro hB5 hR5)
                            clear hR5 hB5 hG5 hO5
                            go_wp2
                            exact ⟨⟨n + 1, hln, by go_num, A5, c5, by rw [hE.out], by rw [hE.out]; exact H5⟩, meas6 hln⟩
                          | false =>
                            have hE := Aside0.mk (show wantM m (i : Int) k false (n + 1) = wantM m (i : Int) k false n from by rw [hWs.out, if_neg (fun d => by cases d.2), List.append_nil])
                            go_wp2
                            exact ⟨⟨n + 1, hln, by go_num, A4, c4, by rw [hE.out], by rw [hE.out]; exact WI⟩, meas6 hln⟩
                    · have v0 : decide (0 < v) = false := decide_eq_false h0
                      have hE := Aside0.mk (show wantM m (i : Int) k al (n + 1) = wantM m (i : Int) k al n from by rw [hWs.out, if_neg (fun d => d.1.1 (by rcases hval.out with e | e | e <;> omega)), List.append_nil])
                      go_wp2
                      exact ⟨⟨n + 1, hln, by go_num, A4, c4, by rw [hE.out], by rw [hE.out]; exact WI⟩, meas6 hln⟩
                  · obtain rfl : n = 16 := by omega
                    have n0 : decide (((16 : Nat) : Int) < 16) = false := by decide
                    have n1 : decide ((16 : Int) < 16) = false := by decide
                    rw [show ((16 : Nat) : Int) = 16 from rfl]
                    have SW := Aside0.mk (SK.out _ WI.out.1)
                    have BW := Aside0.mk (BK.out _ WI.out.1)
                    have c32a : wr.cell? ⟨gn, k, none⟩ = some (.string (nmC k)) := SW.out.name k hk
                    have c32b : wr.cell? ⟨ab, 2, none⟩ = some (.bool al) := blk_cell BW.out 2
                    go_wp2
                    have SD := Aside0.mk (SW.out.below (below_drew1 (Below.refl _ _)))
                    refine start_ (n := 15) (S := fun w' => w'.cell? ⟨gn, k, none⟩ = some (.string (nmC k)) ∧ w'.cell? ⟨ab, 2, none⟩ = some (.bool al)) (ds := [9]) #[false, false, false, false, false, false, false, false, false, false, false, false, false, false, false] (by kernel_rfl) rfl rfl ⟨cell_dr c32a, cell_dr c32b⟩ (fun hHeld => ?_)
                    refine pure_ (i := 0) (N := some 119) (v := ?_) (a' := ?_) #[true, false, false, false, false, false, false, false, false, false, false, false, false, false, false] rfl rfl (by kernel_rfl) (fun _ _ _ h => h) (Or.inl ⟨by rfl, ?_⟩) ?_ ?_
                    rotate_left
                    · intro w'
                      go_simp
                      with_reducible rfl
                    rotate_left
                    · simp only [Act.put, List.setIfInBounds_toArray, List.set_cons_zero, List.set_cons_succ, i64_w, i32_w]
                      rfl
                    refine pure_ (i := 1) (N := some 120) (v := ?_) (a' := ?_) #[true, true, false, false, false, false, false, false, false, false, false, false, false, false, false] rfl rfl (by kernel_rfl) (fun _ _ _ h => h) (Or.inl ⟨by rfl, ?_⟩) ?_ ?_
                    rotate_left
                    · intro w'
                      go_simp
                      with_reducible rfl
                    rotate_left
                    · simp only [Act.put, List.setIfInBounds_toArray, List.set_cons_zero, List.set_cons_succ, i64_w, i32_w]
                      rfl
                    refine pure_ (i := 2) (N := some 121) (v := ?_) (a' := ?_) #[true, true, true, false, false, false, false, false, false, false, false, false, false, false, false] rfl rfl (by kernel_rfl) (fun _ _ _ h => h) (Or.inl ⟨by rfl, ?_⟩) ?_ ?_
                    rotate_left
                    · intro w'
                      go_simp
                      with_reducible rfl
                    rotate_left
                    · simp only [Act.put, List.setIfInBounds_toArray, List.set_cons_zero, List.set_cons_succ, i64_w, i32_w]
                      rfl
                    refine pure_ (i := 3) (N := some 122) (v := ?_) (a' := ?_) #[true, true, true, true, false, false, false, false, false, false, false, false, false, false, false] rfl rfl (by kernel_rfl) (fun _ _ _ h => h) (Or.inl ⟨by rfl, ?_⟩) ?_ ?_
                    rotate_left
                    · intro w'
                      go_simp
                      with_reducible rfl
                    rotate_left
                    · simp only [Act.put, List.setIfInBounds_toArray, List.set_cons_zero, List.set_cons_succ, i64_w, i32_w]
                      rfl
                    refine pure_ (i := 4) (N := some 123) (v := ?_) (a' := ?_) #[true, true, true, true, true, false, false, false, false, false, false, false, false, false, false] rfl rfl (by kernel_rfl) (fun _ _ _ h => h) (Or.inl ⟨by rfl, ?_⟩) ?_ ?_
                    rotate_left
                    · intro w'
                      go_simp
                      with_reducible rfl
                    rotate_left
                    · simp only [Act.put, List.setIfInBounds_toArray, List.set_cons_zero, List.set_cons_succ, i64_w, i32_w]
                      rfl
                    refine pure_ (i := 6) (N := some 125) (v := ?_) (a' := ?_) #[true, true, true, true, true, false, true, false, false, false, false, false, false, false, false] rfl rfl (by kernel_rfl) (fun _ _ _ h => h) (Or.inl ⟨by rfl, ?_⟩) ?_ ?_
                    rotate_left
                    · intro w'
                      go_simp
                      with_reducible rfl
                    rotate_left
                    · simp only [Act.put, List.setIfInBounds_toArray, List.set_cons_zero, List.set_cons_succ, i64_w, i32_w]
                      rfl
                    refine take_ (i := 5) (N := some 124) (v := ?_) (a' := ?_) #[true, true, true, true, true, true, true, false, false, false, false, false, false, false, false] rfl rfl (by kernel_rfl) (fun _ _ _ h => h) (Or.inl ⟨by rfl, ?_⟩) hHeld ?_ ?_
                    rotate_left
                    · rintro w' ⟨s0, s1⟩
                      go_simp
                      with_reducible rfl
                    rotate_left
                    · simp only [Act.put, List.setIfInBounds_toArray, List.set_cons_zero, List.set_cons_succ, i64_w, i32_w]
                      rfl
                    refine take_ (i := 7) (N := some 126) (v := ?_) (a' := ?_) #[true, true, true, true, true, true, true, true, false, false, false, false, false, false, false] rfl rfl (by kernel_rfl) (fun _ _ _ h => h) (Or.inl ⟨by rfl, ?_⟩) hHeld ?_ ?_
                    rotate_left
                    · rintro w' ⟨s0, s1⟩
                      go_simp
                      with_reducible rfl
                    rotate_left
                    · simp only [Act.put, List.setIfInBounds_toArray, List.set_cons_zero, List.set_cons_succ, i64_w, i32_w]
                      rfl
                    refine pure_ (i := 8) (N := some 127) (v := ?_) (a' := ?_) #[true, true, true, true, true, true, true, true, true, false, false, false, false, false, false] rfl rfl (by kernel_rfl) (fun _ _ _ h => h) (Or.inl ⟨by rfl, ?_⟩) ?_ ?_
                    rotate_left
                    · intro w'
                      go_simp
                      with_reducible rfl
                    rotate_left
                    · simp only [Act.put, List.setIfInBounds_toArray, List.set_cons_zero, List.set_cons_succ, i64_w, i32_w]
                      rfl
                    refine last_ (i := 9) (N := some 128) #[true, true, true, true, true, true, true, true, true, true, false, false, false, false, false] rfl rfl (by kernel_rfl) (by decide) (fun K hK => ?_)
                    refine goes_ Try.func8 (by kernel_rfl) rfl #[.pointer (some ⟨g, 0, none⟩), .int .i64 (i : Int), .agg #[.string (nmC k), .bool al]] (by rfl) rfl rfl (by simp only [List.map_toArray, List.map_cons, List.map_nil]; rfl) ?_
                    with_reducible refine (take_inv SD.out.tab names_C SD.out.inv i k hi hk al).mono ?_
                    rintro e w8 ⟨A8, c8, rfl, hC8, ⟨l8, rv8, hT8, hI8⟩, hb8, hF8⟩
                    refine ⟨_, rfl, ?_⟩
                    refine hK.out _ _ ?_
                    clear hK K
                    refine norm_ (a' := ?_) ?_ ?_
                    rotate_left
                    · show Act.put _ (some 128) _ = _
                      simp only [Act.put, List.setIfInBounds_toArray, List.set_cons_zero, List.set_cons_succ, i64_w, i32_w]
                      rfl
                    refine pure_ (i := 10) (N := some 118) (v := ?_) (a' := ?_) #[true, true, true, true, true, true, true, true, true, true, true, false, false, false, false] rfl rfl (by kernel_rfl) (fun _ _ _ h => h) (Or.inl ⟨by rfl, ?_⟩) ?_ ?_
                    rotate_left
                    · intro w'
                      go_simp
                      with_reducible rfl
                    rotate_left
                    · simp only [Act.put, List.setIfInBounds_toArray, List.set_cons_zero, List.set_cons_succ, i64_w, i32_w]
                      rfl
                    refine pure_ (i := 11) (N := some 129) (v := ?_) (a' := ?_) #[true, true, true, true, true, true, true, true, true, true, true, true, false, false, false] rfl rfl (by kernel_rfl) (fun _ _ _ h => h) (Or.inl ⟨by rfl, ?_⟩) ?_ ?_
                    rotate_left
                    · intro w'
                      go_simp
                      with_reducible rfl
                    rotate_left
                    · simp only [Act.put, List.setIfInBounds_toArray, List.set_cons_zero, List.set_cons_succ, i64_w, i32_w]
                      rfl
                    refine pure_ (i := 12) (N := some 130) (v := ?_) (a' := ?_) #[true, true, true, true, true, true, true, true, true, true, true, true, true, false, false] rfl rfl (by kernel_rfl) (fun _ _ _ h => h) (Or.inl ⟨by rfl, ?_⟩) ?_ ?_
                    rotate_left
                    · intro w'
                      go_simp
                      with_reducible rfl
                    rotate_left
                    · simp only [Act.put, List.setIfInBounds_toArray, List.set_cons_zero, List.set_cons_succ, i64_w, i32_w]
                      rfl
                    refine pure_ (i := 13) (N := some 17) (v := ?_) (a' := ?_) #[true, true, true, true, true, true, true, true, true, true, true, true, true, true, false] rfl rfl (by kernel_rfl) (fun _ _ _ h => h) (Or.inl ⟨by rfl, ?_⟩) ?_ ?_
                    rotate_left
                    · intro w'
                      go_simp
                      with_reducible rfl
                    rotate_left
                    · simp only [Act.put, List.setIfInBounds_toArray, List.set_cons_zero, List.set_cons_succ, i64_w, i32_w]
                      rfl
                    refine pure_ (i := 14) (N := some 18) (v := ?_) (a' := ?_) #[true, true, true, true, true, true, true, true, true, true, true, true, true, true, true] rfl rfl (by kernel_rfl) (fun _ _ _ h => h) (Or.inl ⟨by rfl, ?_⟩) ?_ ?_
                    rotate_left
                    · intro w'
                      go_simp
                      with_reducible rfl
                    rotate_left
                    · simp only [Act.put, List.setIfInBounds_toArray, List.set_cons_zero, List.set_cons_succ, i64_w, i32_w]
                      rfl
                    refine done_ (by kernel_rfl) ?_
                    have S8 := Aside0.mk (SD.out.far hT8 hI8 hb8 hF8)
                    have BX8 := Aside0.mk ((hF8 ab (blk_lt BW.out) (blk_ne BW.out SW.out.tab.cells (by decide)) (fun e => ((Kd.R_types SW.out.tab.row BW.out k51_E31).1 ab e.symm).2 rfl)).trans BW.out)
                    have R8 := Aside0.mk (Kd.R_step (w1 := w8) (Kd.R_mono (Kd.R_bound WI.out.2) (fun q hq => hq.2.1)) (fun q hq hl => hF8 q hl (show q ≠ g from by have := GLT.out; omega) (fun e => by have := OWN.out q e.symm; omega)))
                    have C8 := Aside0.mk hC8
                    have C4 := Aside0.mk (Kd.R_reads' R8.out).2.2
                    clear hT8 hI8 hb8 hF8 hC8 hHeld c32a c32b SW BW WI SD R8 OWN GLT SK BK SZ EAB
                    obtain ⟨L, hL⟩ : ∃ L, wantM m (i : Int) k al 16 = L := ⟨_, rfl⟩
                    have EL := Aside0.mk hL
                    rw [hL] at C8 C4 ⊢
                    clear hL
                    have ll : ((L.length : Int) == (L.length : Int)) = true := beq_self_eq_true _
                    go_wp2
                    go_loopw [19] (fun x w' => ∃ n : Nat, n ≤ L.length ∧ x = .int .i64 (n : Int) ∧ Aside0 (Below w8.heap.size w8 w')) (fun x _ => L.length - (intOf x).toNat)
                    case atStart => exact ⟨0, Nat.zero_le _, rfl, .mk (Below.refl _ _)⟩
                    case round =>
                      obtain ⟨n, hn, rfl, WN⟩ := hrel
                      by_cases hln : n < L.length
                      · have n0 : decide ((n : Int) < (L.length : Int)) = true := decide_eq_true (by omega)
                        have n1 : decide (n < L.length) = true := decide_eq_true hln
                        have n2 : (0 : Int) ≤ (n : Int) := by omega
                        have n3 : (n : Int) < (L.length : Int) := by omega
                        obtain ⟨ad8, hA8, k8⟩ := Kd.at_int (Kd.C_below C8.out WN.out) (n : Int) n2 n3
                        obtain ⟨ad4, hA4, k4⟩ := Kd.at_int (Kd.C_below C4.out WN.out) (n : Int) n2 n3
                        rw [Int.toNat_natCast] at k8 k4
                        subst hA8 hA4
                        obtain ⟨v, hv⟩ : ∃ v, rd L (n : Int) = v := ⟨_, rfl⟩
                        rw [hv] at k8 k4
                        have vv : (v == v) = true := beq_self_eq_true _
                        have NW := Aside0.mk (show wrap64 ((n : Int) + 1) = (n : Int) + 1 from w64 (by omega) (by have := wantM_le m (i : Int) k 16 al; rw [EL.out] at this; omega))
                        clear hv
                        go_wp2
                        go_region
                        go_wp2
                        all_goals
                          try rw [NW.out]
                          go_roundw
                          case measure => exact measn hln
                          case rel => exact ⟨n + 1, hln, by go_num, .mk (below_drew1 WN.out)⟩
                      · obtain rfl : n = L.length := by omega
                        have n0 : decide ((L.length : Int) < (L.length : Int)) = false := decide_eq_false (by omega)
                        have n1 : decide (L.length < L.length) = false := decide_eq_false (by omega)
                        have S9 := Aside0.mk (S8.out.below WN.out)
                        have BX9 := Aside0.mk (blk_below BX8.out WN.out)
                        clear S8 BX8 C8 C4
                        by_cases hL0 : L = []
                        · have z0 : ((L.length : Int) == 0) = true := by rw [hL0]; rfl
                          have tk := Aside0.mk (show takeM m i k al = setM m i k (upd m i k al) from by unfold takeM; rw [EL.out, if_pos hL0])
                          have mc9 := S9.out.cell i k hi hk
                          have mfr : wr.frozen? ⟨mb, i * 6 + k, none⟩ = false := blk_frozen S9.out.cel _
                          have mval := Aside0.mk (S9.out.mat)
                          obtain ⟨v, hv⟩ : ∃ v, m i k = v := ⟨_, rfl⟩
                          have HV := Aside0.mk hv
                          rw [hv] at mc9
                          clear hv
                          go_wp2
                          refine start_ (n := 11) (S := fun w' => w'.cell? ⟨mb, i * 6 + k, none⟩ = some (.int .i64 v)) (ds := [10]) #[false, false, false, false, false, false, false, false, false, false, false] (by kernel_rfl) rfl rfl (cell_dr mc9) (fun hHeld => ?_)
                          refine pure_ (i := 0) (N := some 167) (v := ?_) (a' := ?_) #[true, false, false, false, false, false, false, false, false, false, false] rfl rfl (by kernel_rfl) (fun _ _ _ h => h) (Or.inl ⟨by rfl, ?_⟩) ?_ ?_
                          rotate_left
                          · intro w'
                            go_simp
                            with_reducible rfl
                          rotate_left
                          · simp only [Act.put, List.setIfInBounds_toArray, List.set_cons_zero, List.set_cons_succ, i64_w, i32_w]
                            rfl
                          refine pure_ (i := 1) (N := some 168) (v := ?_) (a' := ?_) #[true, true, false, false, false, false, false, false, false, false, false] rfl rfl (by kernel_rfl) (fun _ _ _ h => h) (Or.inl ⟨by rfl, ?_⟩) ?_ ?_
                          rotate_left
                          · intro w'
                            go_simp
                            with_reducible rfl
                          rotate_left
                          · simp only [Act.put, List.setIfInBounds_toArray, List.set_cons_zero, List.set_cons_succ, i64_w, i32_w]
                            rfl
                          refine pure_ (i := 2) (N := some 169) (v := ?_) (a' := ?_) #[true, true, true, false, false, false, false, false, false, false, false] rfl rfl (by kernel_rfl) (fun _ _ _ h => h) (Or.inl ⟨by rfl, ?_⟩) ?_ ?_
                          rotate_left
                          · intro w'
                            go_simp
                            with_reducible rfl
                          rotate_left
                          · simp only [Act.put, List.setIfInBounds_toArray, List.set_cons_zero, List.set_cons_succ, i64_w, i32_w]
                            rfl
                          refine pure_ (i := 3) (N := some 170) (v := ?_) (a' := ?_) #[true, true, true, true, false, false, false, false, false, false, false] rfl rfl (by kernel_rfl) (fun _ _ _ h => h) (Or.inl ⟨by rfl, ?_⟩) ?_ ?_
                          rotate_left
                          · intro w'
                            go_simp
                            with_reducible rfl
                          rotate_left
                          · simp only [Act.put, List.setIfInBounds_toArray, List.set_cons_zero, List.set_cons_succ, i64_w, i32_w]
                            rfl
                          refine pure_ (i := 4) (N := some 171) (v := ?_) (a' := ?_) #[true, true, true, true, true, false, false, false, false, false, false] rfl rfl (by kernel_rfl) (fun _ _ _ h => h) (Or.inl ⟨by rfl, ?_⟩) ?_ ?_
                          rotate_left
                          · intro w'
                            go_simp
                            with_reducible rfl
                          rotate_left
                          · simp only [Act.put, List.setIfInBounds_toArray, List.set_cons_zero, List.set_cons_succ, i64_w, i32_w]
                            rfl
                          refine pure_ (i := 5) (N := some 172) (v := ?_) (a' := ?_) #[true, true, true, true, true, true, false, false, false, false, false] rfl rfl (by kernel_rfl) (fun _ _ _ h => h) (Or.inl ⟨by rfl, ?_⟩) ?_ ?_
                          rotate_left
                          · intro w'
                            go_simp
                            with_reducible rfl
                          rotate_left
                          · simp only [Act.put, List.setIfInBounds_toArray, List.set_cons_zero, List.set_cons_succ, i64_w, i32_w]
                            rfl
                          refine pure_ (i := 8) (N := some 175) (v := ?_) (a' := ?_) #[true, true, true, true, true, true, false, false, true, false, false] rfl rfl (by kernel_rfl) (fun _ _ _ h => h) (Or.inl ⟨by rfl, ?_⟩) ?_ ?_
                          rotate_left
                          · intro w'
                            go_simp
                            with_reducible rfl
                          rotate_left
                          · simp only [Act.put, List.setIfInBounds_toArray, List.set_cons_zero, List.set_cons_succ, i64_w, i32_w]
                            rfl
                          refine take_ (i := 6) (N := some 173) (v := ?_) (a' := ?_) #[true, true, true, true, true, true, true, false, true, false, false] rfl rfl (by kernel_rfl) (fun _ _ _ h => h) (Or.inl ⟨by rfl, ?_⟩) hHeld ?_ ?_
                          rotate_left
                          · intro w' s0
                            go_simp
                            with_reducible rfl
                          rotate_left
                          · simp only [Act.put, List.setIfInBounds_toArray, List.set_cons_zero, List.set_cons_succ, i64_w, i32_w]
                            rfl
                          refine pure_ (i := 7) (N := some 174) (v := ?_) (a' := ?_) #[true, true, true, true, true, true, true, true, true, false, false] rfl rfl (by kernel_rfl) (fun _ _ _ h => h) (Or.inl ⟨by rfl, ?_⟩) ?_ ?_
                          rotate_left
                          · intro w'
                            go_simp
                            with_reducible rfl
                          rotate_left
                          · simp only [Act.put, List.setIfInBounds_toArray, List.set_cons_zero, List.set_cons_succ, i64_w, i32_w]
                            rfl
                          refine pure_ (i := 9) (N := some 176) (v := ?_) (a' := ?_) #[true, true, true, true, true, true, true, true, true, true, false] rfl rfl (by kernel_rfl) (fun _ _ _ h => h) (Or.inl ⟨by rfl, ?_⟩) ?_ ?_
                          rotate_left
                          · intro w'
                            go_simp
                            with_reducible rfl
                          rotate_left
                          · simp only [Act.put, List.setIfInBounds_toArray, List.set_cons_zero, List.set_cons_succ, i64_w, i32_w]
                            rfl
                          refine last_ (i := 10) (N := none) #[true, true, true, true, true, true, true, true, true, true, true] rfl rfl (by kernel_rfl) (by decide) (fun K hK => ?_)
                          refine skip_ (w1 := ?_) (by rfl) rfl ?_ ?_
                          rotate_left
                          · go_simp
                            rfl
                          refine hK.out _ _ ?_
                          clear hK K
                          refine done_ (by kernel_rfl) ?_
                          clear hHeld
                          obtain ⟨u, hu, hu2⟩ : ∃ u, (if v < 1 then 1 else v) = u ∧ max v 1 = u := ⟨_, rfl, by split <;> omega⟩
                          rw [hu]
                          have SA := Aside0.mk ((S9.out.put i k hi hk u).below (below_drew1 (Below.refl _ _)))
                          have BXA := Aside0.mk (show (wr.setCell ⟨mb, i * 6 + k, none⟩ (.int .i64 u)).drew.heap[ab]? = _ from blk_far BX9.out (blk_ne BX9.out S9.out.cel (by decide)) _)
                          obtain ⟨wa, hwa⟩ : ∃ W, (wr.setCell ⟨mb, i * 6 + k, none⟩ (.int .i64 u)).drew = W := ⟨_, rfl⟩
                          rw [hwa] at SA BXA ⊢
                          have bxa : wa.cell? ⟨ab, 2, none⟩ = some (.bool al) := blk_cell BXA.out 2
                          have mfa : wa.frozen? ⟨mb, i * 6 + k, none⟩ = false := blk_frozen SA.out.cel _
                          have mca := SA.out.cell i k hi hk
                          clear hwa mc9 mfr S9 BX9
                          cases al with
                          | true =>
                            have SP := Aside0.mk (SA.out.put i k hi hk 2)
                            rw [set_set] at SP
                            have hq := tk.out
                            have hq2 : setM m i k 2 = takeM m i k true := hq.symm
                            rw [hq2] at SP
                            obtain ⟨csl, hcsl⟩ := SP.out.list
                            have SF := Aside0.mk hcsl
                            clear SP hcsl hq hq2 SA BXA
                            go_wp2_with (first | ((with_reducible refine gate_dst (N := 184) rfl ?_); refine wpList_load_mid rfl 27 (.tmp 4) rfl mb 0 rfl csl (.array 16 25) (fun q u hq => by rw [Nat.zero_add, blk_cell SF.out.cel q, List.getElem?_toArray]; exact hq) Try.underlying27 rfl (by rw [size27, ← SF.out.mat.size, List.size_toArray]) ?_) | (go_at_call 9; fail))
                            refine (right_calls SF.out.tab csl.toArray _ SF.out.mat nmC gn 6 (fun q hq => SF.out.name q hq) SF.out.fits).mono ?_
                            rintro e wz ⟨rfl, hbz⟩
                            have SG := Aside0.mk (SF.out.below hbz)
                            clear hbz SF
                            go_wp2
                            rw [JW.out]
                            go_roundw
                            case measure => exact measn hlt2
                            case rel => exact ⟨j + 1, hlt2, by go_num, _, _, _, _, SG⟩
                          | false =>
                            have hq : setM m i k u = takeM m i k false := by rw [tk.out]; unfold upd; rw [HV.out, hu2]; rfl
                            rw [hq] at SA
                            obtain ⟨csl, hcsl⟩ := SA.out.list
                            have SF := Aside0.mk hcsl
                            clear SA BXA hq hcsl
                            go_wp2_with (first | ((with_reducible refine gate_dst (N := 184) rfl ?_); refine wpList_load_mid rfl 27 (.tmp 4) rfl mb 0 rfl csl (.array 16 25) (fun q u hq => by rw [Nat.zero_add, blk_cell SF.out.cel q, List.getElem?_toArray]; exact hq) Try.underlying27 rfl (by rw [size27, ← SF.out.mat.size, List.size_toArray]) ?_) | (go_at_call 9; fail))
                            refine (right_calls SF.out.tab csl.toArray _ SF.out.mat nmC gn 6 (fun q hq => SF.out.name q hq) SF.out.fits).mono ?_
                            rintro e wz ⟨rfl, hbz⟩
                            have SG := Aside0.mk (SF.out.below hbz)
                            clear hbz SF
                            go_wp2
                            rw [JW.out]
                            go_roundw
                            case measure => exact measn hlt2
                            case rel => exact ⟨j + 1, hlt2, by go_num, _, _, _, _, SG⟩
                        · have z0 : ((L.length : Int) == 0) = false := beq_eq_false_iff_ne.mpr (by have := List.length_pos_iff.mpr hL0; omega)
                          have tk : takeM m i k al = m := by unfold takeM; rw [EL.out, if_neg hL0]
                          rw [tk] at S9
                          obtain ⟨csl, hcsl⟩ := S9.out.list
                          have SF := Aside0.mk hcsl
                          clear S9 BX9 tk hcsl
                          go_wp2_with (first | ((with_reducible refine gate_dst (N := 184) rfl ?_); refine wpList_load_mid rfl 27 (.tmp 4) rfl mb 0 rfl csl (.array 16 25) (fun q u hq => by rw [Nat.zero_add, blk_cell SF.out.cel q, List.getElem?_toArray]; exact hq) Try.underlying27 rfl (by rw [size27, ← SF.out.mat.size, List.size_toArray]) ?_) | (go_at_call 9; fail))
                          refine (right_calls SF.out.tab csl.toArray _ SF.out.mat nmC gn 6 (fun q hq => SF.out.name q hq) SF.out.fits).mono ?_
                          rintro e wz ⟨rfl, hbz⟩
                          have SG := Aside0.mk (SF.out.below hbz)
                          clear hbz SF
                          go_wp2
                          rw [JW.out]
                          go_roundw
                          case measure => exact measn hlt2
                          case rel => exact ⟨j + 1, hlt2, by go_num, _, _, _, _, SG⟩
      · rcases (show who < 0 ∨ 16 ≤ who by omega) with ho | ho
        · have HO := Aside0.mk (show who < 0 ∨ 16 ≤ who from .inl ho)
          have g1 : decide ((0 : Int) ≤ who) = false := decide_eq_false (by omega)
          clear hin ho
          cases fr with
          | true =>
            as_aux_lemma =>
              have SB := Aside0.mk (SS.out.below (below_alloc (Below.refl _ _) (.cells #[.int .i64 who, .int .i64 what, .bool al, .bool true] 31)))
              clear SS
              go_wp2
              go_loopw [11, 12] (fun n x w' => n = .int .i64 0 ∧ x = .int .i64 0 ∧ Aside0 (St ⟨g, g⟩ mb gn w l rv m cs m w')) (fun _ _ _ => 0)
              case atStart => exact ⟨rfl, rfl, SB⟩
              case round =>
                clear SB
                obtain ⟨rfl, rfl, SB⟩ := hrel
                go_wp2_with (first | (go_at_call 7; fail))
                refine (free_out SB.out.tab SB.out.inv who HO.out).mono ?_
                rintro e w6 ⟨rfl, hb⟩
                have S6 := Aside0.mk (SB.out.below hb)
                clear hb SB
                go_wp2
                rw [JW.out]
                go_roundw
                case measure => exact measn hlt2
                case rel => exact ⟨j + 1, hlt2, by go_num, _, _, _, _, S6⟩
          | false =>
            as_aux_lemma =>
              obtain ⟨ab, hab⟩ : ∃ ab, wr.heap.size = ab := ⟨_, rfl⟩
              have B1 := below_alloc (below_alloc (Below.refl wr.heap.size wr) (.cells #[.int .i64 who, .int .i64 what, .bool al, .bool false] 31)) (.cells #[] 3)
              have X1 := blk_alloc (heap_alloc_new wr (.cells #[.int .i64 who, .int .i64 what, .bool al, .bool false] 31)) (.cells #[] 3)
              have X2 := heap_alloc_new (wr.alloc (.cells #[.int .i64 who, .int .i64 what, .bool al, .bool false] 31)) (.cells #[] 3)
              rw [World.size_alloc] at X2
              rw [hab] at X1 X2 B1
              have R0 := Aside0.mk (ints_row (base := ab + 1) (cap := 0) (ok := fun _ => True) (ws := []) X2 (Nat.le_refl _) trivial rfl (Nat.le_refl _) (Nat.zero_le _) rfl rfl)
              have BW1 := Aside0.mk B1
              have BXC := Aside0.mk X1
              have EAB := Aside0.mk hab
              have y4 : (0 : Int) ≤ (k : Int) := by omega
              have y5 : (k : Int) < 6 := by omega
              clear X1 X2 B1
              go_wp2
              obtain ⟨wS, hwS⟩ : ∃ W, (wr.alloc (.cells #[.int .i64 who, .int .i64 what, .bool al, .bool false] 31)).alloc (.cells #[] 3) = W := ⟨_, rfl⟩
              rw [hwS] at R0 BW1 BXC ⊢
              clear hwS hab y0 y1 y2 y3
              have SK := Aside0.mk (show ∀ W, Below (ab + 1) wS W → St ⟨g, g⟩ mb gn w l rv m cs m W from fun W hW => SS.out.below (by rw [EAB.out]; exact BW1.out.trans (hW.mono (Nat.le_succ _))))
              have BK := Aside0.mk (show ∀ W, Below (ab + 1) wS W → W.heap[ab]? = some (.cells #[.int .i64 who, .int .i64 what, .bool al, .bool false] 31 (0, 0)) from fun W hW => (hW.block ab (Nat.lt_succ_self _)).trans BXC.out)
              have SZ := Aside0.mk (show ab < wS.heap.size from blk_lt BXC.out)
              have OWN := Aside0.mk (show ∀ q, rv.ownBlock = some q → q < ab from fun q hq => EAB.out ▸ Kd.R_lt SS.out.tab.row q hq)
              have GLT := Aside0.mk (show g < ab from EAB.out ▸ blk_lt SS.out.tab.cells)
              clear SS BW1 BXC
              go_loopw [14, 15] (fun u x w' => ∃ n : Nat, n ≤ 16 ∧ u = .bool (any2 m k n) ∧ x = .int .i64 (n : Int) ∧ Aside0 (Below (ab + 1) wS w' ∧ Kd.R (Kd.int .i64) 3 w' (ab + 1) (fun _ => True) (.slice (some ⟨ab + 1, 0, none⟩) 0 0) [])) (fun _ x _ => 16 - (intOf x).toNat)
              case atStart => exact ⟨0, Nat.zero_le _, rfl, rfl, .mk ⟨Below.refl _ _, R0.out⟩⟩
              case round =>
                clear R0
                obtain ⟨n, hn, rfl, rfl, WI⟩ := hrel
                by_cases hln : n < 16
                · have n0 : decide ((n : Int) < 16) = true := decide_eq_true (by omega)
                  have n1 : decide (n < 16) = true := decide_eq_true hln
                  have n2 : (0 : Int) ≤ (n : Int) := by omega
                  have n3 : (n : Int) < 16 := by omega
                  have mcl := (SK.out _ WI.out.1).cell n k hln hk
                  have hA := Aside0.mk (any2_succ m k n)
                  obtain ⟨v, hv⟩ : ∃ v, m n k = v := ⟨_, rfl⟩
                  rw [hv] at mcl hA
                  obtain ⟨bb, hbb⟩ : ∃ bb, any2 m k n = bb := ⟨_, rfl⟩
                  rw [hbb] at hA ⊢
                  clear hbb hv
                  cases bb with
                  | true =>
                    go_wp2
                    exact ⟨⟨n + 1, hln, by rw [hA.out]; rfl, by go_num, WI⟩, meas6 hln⟩
                  | false =>
                    go_wp2
                    exact ⟨⟨n + 1, hln, by rw [hA.out]; rfl, by go_num, WI⟩, meas6 hln⟩
                · obtain rfl : n = 16 := by omega
                  have n0 : decide (((16 : Nat) : Int) < 16) = false := by decide
                  have n1 : decide ((16 : Int) < 16) = false := by decide
                  rw [show ((16 : Nat) : Int) = 16 from rfl]
                  obtain ⟨T2, hT2⟩ : ∃ T2, any2 m k 16 = T2 := ⟨_, rfl⟩
                  have ET2 := Aside0.mk hT2
                  rw [hT2]
                  clear hT2
                  go_wp2
                  go_loopw [13, 16] (fun u x w' => ∃ n : Nat, n ≤ 16 ∧ x = .int .i64 (n : Int) ∧ ∃ A c, u = .slice A (wantM m who k al n).length c ∧ Aside0 (Below (ab + 1) wS w' ∧ Kd.R (Kd.int .i64) 3 w' (ab + 1) (fun _ => True) (.slice A (wantM m who k al n).length c) (wantM m who k al n))) (fun _ x _ => 16 - (intOf x).toNat)
                  case atStart => exact ⟨0, Nat.zero_le _, rfl, _, _, by rw [wantM_zero]; rfl, .mk (by rw [wantM_zero]; exact WI.out)⟩
                  case round =>
                    clear WI
                    obtain ⟨n, hn, rfl, A4, c4, rfl, WI⟩ := hrel
                    by_cases hln : n < 16
                    · have n0 : decide ((n : Int) < 16) = true := decide_eq_true (by omega)
                      have n1 : decide (n < 16) = true := decide_eq_true hln
                      have n2 : (0 : Int) ≤ (n : Int) := by omega
                      have n3 : (n : Int) < 16 := by omega
                      have mcl := (SK.out _ WI.out.1).cell n k hln hk
                      have bxc : wr.cell? ⟨ab, 2, none⟩ = some (.bool al) := blk_cell (BK.out _ WI.out.1) 2
                      have hWs := Aside0.mk (wantM_succ m who k n al)
                      have hval := Aside0.mk ((SK.out _ WI.out.1).inv.val n k hln hk)
                      obtain ⟨v, hv⟩ : ∃ v, m n k = v := ⟨_, rfl⟩
                      rw [hv] at mcl hWs hval
                      rw [ET2.out] at hWs
                      have hle := Aside0.mk (wantM_le m who k n al)
                      clear hv
                      by_cases h0 : 0 < v
                      · have v0 : decide (0 < v) = true := decide_eq_true h0
                        have hv0 : v ≠ 0 := by omega
                        by_cases h2 : (n : Int) = who
                        · exact absurd h2 (by have := HO.out; omega)
                        · have v1 : ((n : Int) == who) = false := beq_eq_false_iff_ne.mpr h2
                          cases al with
                          | true =>
                            have hE := Aside0.mk (show wantM m who k true (n + 1) = wantM m who k true n ++ [(n : Int)] from by rw [hWs.out, if_pos ⟨⟨hv0, h2⟩, rfl⟩])
                            have hnq := heap_alloc_new wr (.cells #[.int .i64 (n : Int)] 3)
                            have ONE := Aside0.mk (Kd.R_reads' (ints_row (base := 0) (cap := 1) (n := 1) (ok := fun _ => True) (ws := [(n : Int)]) hnq (Nat.zero_le _) trivial rfl (Nat.le_refl _) (by decide) rfl rfl)).2.2
                            clear hnq
                            obtain ⟨L, hL⟩ : ∃ L, wantM m who k true n = L := ⟨_, rfl⟩
                            rw [hL] at hE WI hle ⊢
                            clear hL
                            go_wp2_with ((with_reducible refine gate_builtin (b := .append) (xs := #[.tmp 114, .tmp 116]) rfl ?_); at_builtin; refine Kd.R_append_row (Value.int .i64) 0 (h1 := fun _ => rfl) (w0 := wS) (ab + 1) rfl (.tmp 114) (.tmp 116) 33 3 (.int .i64 0) 8 rfl Try.underlying33 info3 rfl (by decide) (.slice A4 L.length c4) L [(n : Int)] (some ⟨wr.heap.size, 0, none⟩) 1 1 (fun _ => True) rfl rfl ?aF ?aO ?aR ?aB ?aS ?aL ?_)
                            case aF => exact fun _ _ => trivial
                            case aO => exact Kd.R_below WI.out.2 (below_alloc (Below.refl _ _) _)
                            case aR => exact ONE.out
                            case aB => exact WI.out.1.alloc (by have := WI.out.1.size; have := SZ.out; omega) _
                            case aS => rw [World.size_alloc]; have := WI.out.1.size; have := SZ.out; omega
                            case aL => have := hle.out; omega
                            intro v5 w5 hR5 hB5 hG5 hO5
                            obtain ⟨A5, c5, rfl⟩ := Kd.R_slice hR5
                            have H5 := Aside0.mk (And.intro hB5 hR5)
                            clear hR5 hB5 hG5 hO5
                            go_wp2
                            exact ⟨⟨n + 1, hln, by go_num, A5, c5, by rw [hE.out], by rw [hE.out]; exact H5⟩, meas6 hln⟩
                          | false =>
                            cases T2 with
                            | true =>
                              have hE := Aside0.mk (show wantM m who k false (n + 1) = wantM m who k false n ++ [(n : Int)] from by rw [hWs.out, if_pos ⟨⟨hv0, h2⟩, rfl⟩])
                              have hnq := heap_alloc_new wr (.cells #[.int .i64 (n : Int)] 3)
                              have ONE := Aside0.mk (Kd.R_reads' (ints_row (base := 0) (cap := 1) (n := 1) (ok := fun _ => True) (ws := [(n : Int)]) hnq (Nat.zero_le _) trivial rfl (Nat.le_refl _) (by decide) rfl rfl)).2.2
                              clear hnq
                              obtain ⟨L, hL⟩ : ∃ L, wantM m who k false n = L := ⟨_, rfl⟩
                              rw [hL] at hE WI hle ⊢
                              clear hL
                              go_wp2_with ((with_reducible refine gate_builtin (b := .append) (xs := #[.tmp 114, .tmp 116]) rfl ?_); at_builtin; refine Kd.R_append_row (Value.int .i64) 0 (h1 := fun _ => rfl) (w0 := wS) (ab + 1) rfl (.tmp 114) (.tmp 116) 33 3 (.int .i64 0) 8 rfl Try.underlying33 info3 rfl (by decide) (.slice A4 L.length c4) L [(n : Int)] (some ⟨wr.heap.size, 0, none⟩) 1 1 (fun _ => True) rfl rfl ?aF ?aO ?aR ?aB ?aS ?aL ?_)
                              case aF => exact fun _ _ => trivial
                              case aO => exact Kd.R_below WI.out.2 (below_alloc (Below.refl _ _) _)
                              case aR => exact ONE.out
                              case aB => exact WI.out.1.alloc (by have := WI.out.1.size; have := SZ.out; omega) _
                              case aS => rw [World.size_alloc]; have := WI.out.1.size; have := SZ.out; omega
                              case aL => have := hle.out; omega
                              intro v5 w5 hR5 hB5 hG5 hO5
                              obtain ⟨A5, c5, rfl⟩ := Kd.R_slice hR5
                              have H5 := Aside0.mk (And.intro hB5 hR5)
                              clear hR5 hB5 hG5 hO5
                              go_wp2
                              exact ⟨⟨n + 1, hln, by go_num, A5, c5, by rw [hE.out], by rw [hE.out]; exact H5⟩, meas6 hln⟩
                            | false =>
                              have hE := Aside0.mk (show wantM m who k false (n + 1) = wantM m who k false n from by rw [hWs.out, if_neg (fun d => by cases d.2), List.append_nil])
                              go_wp2
                              exact ⟨⟨n + 1, hln, by go_num, A4, c4, by rw [hE.out], by rw [hE.out]; exact WI⟩, meas6 hln⟩
                      · have v0 : decide (0 < v) = false := decide_eq_false h0
                        have hE := Aside0.mk (show wantM m who k al (n + 1) = wantM m who k al n from by rw [hWs.out, if_neg (fun d => d.1.1 (by rcases hval.out with e | e | e <;> omega)), List.append_nil])
                        go_wp2
                        exact ⟨⟨n + 1, hln, by go_num, A4, c4, by rw [hE.out], by rw [hE.out]; exact WI⟩, meas6 hln⟩
                    · obtain rfl : n = 16 := by omega
                      have n0 : decide (((16 : Nat) : Int) < 16) = false := by decide
                      have n1 : decide ((16 : Int) < 16) = false := by decide
                      rw [show ((16 : Nat) : Int) = 16 from rfl]
                      have SW := Aside0.mk (SK.out _ WI.out.1)
                      have BW := Aside0.mk (BK.out _ WI.out.1)
                      have c32a : wr.cell? ⟨gn, k, none⟩ = some (.string (nmC k)) := SW.out.name k hk
                      have c32b : wr.cell? ⟨ab, 2, none⟩ = some (.bool al) := blk_cell BW.out 2
                      go_wp2
                      refine start_ (n := 15) (S := fun w' => w'.cell? ⟨gn, k, none⟩ = some (.string (nmC k)) ∧ w'.cell? ⟨ab, 2, none⟩ = some (.bool al)) (ds := [9]) #[false, false, false, false, false, false, false, false, false, false, false, false, false, false, false] (by kernel_rfl) rfl rfl ⟨cell_dr c32a, cell_dr c32b⟩ (fun hHeld => ?_)
                      refine pure_ (i := 0) (N := some 119) (v := ?_) (a' := ?_) #[true, false, false, false, false, false, false, false, false, false, false, false, false, false, false] rfl rfl (by kernel_rfl) (fun _ _ _ h => h) (Or.inl ⟨by rfl, ?_⟩) ?_ ?_
                      rotate_left
                      · intro w'
                        go_simp
                        with_reducible rfl
                      rotate_left
                      · simp only [Act.put, List.setIfInBounds_toArray, List.set_cons_zero, List.set_cons_succ, i64_w, i32_w]
                        rfl
                      refine pure_ (i := 1) (N := some 120) (v := ?_) (a' := ?_) #[true, true, false, false, false, false, false, false, false, false, false, false, false, false, false] rfl rfl (by kernel_rfl) (fun _ _ _ h => h) (Or.inl ⟨by rfl, ?_⟩) ?_ ?_
                      rotate_left
                      · intro w'
                        go_simp
                        with_reducible rfl
                      rotate_left
                      · simp only [Act.put, List.setIfInBounds_toArray, List.set_cons_zero, List.set_cons_succ, i64_w, i32_w]
                        rfl
                      refine pure_ (i := 2) (N := some 121) (v := ?_) (a' := ?_) #[true, true, true, false, false, false, false, false, false, false, false, false, false, false, false] rfl rfl (by kernel_rfl) (fun _ _ _ h => h) (Or.inl ⟨by rfl, ?_⟩) ?_ ?_
                      rotate_left
                      · intro w'
                        go_simp
                        with_reducible rfl
                      rotate_left
                      · simp only [Act.put, List.setIfInBounds_toArray, List.set_cons_zero, List.set_cons_succ, i64_w, i32_w]
                        rfl
                      refine pure_ (i := 3) (N := some 122) (v := ?_) (a' := ?_) #[true, true, true, true, false, false, false, false, false, false, false, false, false, false, false] rfl rfl (by kernel_rfl) (fun _ _ _ h => h) (Or.inl ⟨by rfl, ?_⟩) ?_ ?_
                      rotate_left
                      · intro w'
                        go_simp
                        with_reducible rfl
                      rotate_left
                      · simp only [Act.put, List.setIfInBounds_toArray, List.set_cons_zero, List.set_cons_succ, i64_w, i32_w]
                        rfl
                      refine pure_ (i := 4) (N := some 123) (v := ?_) (a' := ?_) #[true, true, true, true, true, false, false, false, false, false, false, false, false, false, false] rfl rfl (by kernel_rfl) (fun _ _ _ h => h) (Or.inl ⟨by rfl, ?_⟩) ?_ ?_
                      rotate_left
                      · intro w'
                        go_simp
                        with_reducible rfl
                      rotate_left
                      · simp only [Act.put, List.setIfInBounds_toArray, List.set_cons_zero, List.set_cons_succ, i64_w, i32_w]
                        rfl
                      refine pure_ (i := 6) (N := some 125) (v := ?_) (a' := ?_) #[true, true, true, true, true, false, true, false, false, false, false, false, false, false, false] rfl rfl (by kernel_rfl) (fun _ _ _ h => h) (Or.inl ⟨by rfl, ?_⟩) ?_ ?_
                      rotate_left
                      · intro w'
                        go_simp
                        with_reducible rfl
                      rotate_left
                      · simp only [Act.put, List.setIfInBounds_toArray, List.set_cons_zero, List.set_cons_succ, i64_w, i32_w]
                        rfl
                      refine take_ (i := 5) (N := some 124) (v := ?_) (a' := ?_) #[true, true, true, true, true, true, true, false, false, false, false, false, false, false, false] rfl rfl (by kernel_rfl) (fun _ _ _ h => h) (Or.inl ⟨by rfl, ?_⟩) hHeld ?_ ?_
                      rotate_left
                      · rintro w' ⟨s0, s1⟩
                        go_simp
                        with_reducible rfl
                      rotate_left
                      · simp only [Act.put, List.setIfInBounds_toArray, List.set_cons_zero, List.set_cons_succ, i64_w, i32_w]
                        rfl
                      refine take_ (i := 7) (N := some 126) (v := ?_) (a' := ?_) #[true, true, true, true, true, true, true, true, false, false, false, false, false, false, false] rfl rfl (by kernel_rfl) (fun _ _ _ h => h) (Or.inl ⟨by rfl, ?_⟩) hHeld ?_ ?_
                      rotate_left
                      · rintro w' ⟨s0, s1⟩
                        go_simp
                        with_reducible rfl
                      rotate_left
                      · simp only [Act.put, List.setIfInBounds_toArray, List.set_cons_zero, List.set_cons_succ, i64_w, i32_w]
                        rfl
                      refine pure_ (i := 8) (N := some 127) (v := ?_) (a' := ?_) #[true, true, true, true, true, true, true, true, true, false, false, false, false, false, false] rfl rfl (by kernel_rfl) (fun _ _ _ h => h) (Or.inl ⟨by rfl, ?_⟩) ?_ ?_
                      rotate_left
                      · intro w'
                        go_simp
                        with_reducible rfl
                      rotate_left
                      · simp only [Act.put, List.setIfInBounds_toArray, List.set_cons_zero, List.set_cons_succ, i64_w, i32_w]
                        rfl
                      refine last_ (i := 9) (N := some 128) #[true, true, true, true, true, true, true, true, true, true, false, false, false, false, false] rfl rfl (by kernel_rfl) (by decide) (fun K hK => ?_)
                      refine goes_ Try.func8 (by kernel_rfl) rfl #[.pointer (some ⟨g, 0, none⟩), .int .i64 who, .agg #[.string (nmC k), .bool al]] (by rfl) rfl rfl (by simp only [List.map_toArray, List.map_cons, List.map_nil]; rfl) ?_
                      with_reducible refine (take_out g who HO.out (nmC k) al _).mono ?_
                      rintro e w8 ⟨rfl, hb8⟩
                      refine ⟨_, rfl, ?_⟩
                      refine hK.out _ _ ?_
                      clear hK K
                      refine norm_ (a' := ?_) ?_ ?_
                      rotate_left
                      · show Act.put _ (some 128) _ = _
                        simp only [Act.put, List.setIfInBounds_toArray, List.set_cons_zero, List.set_cons_succ, i64_w, i32_w]
                        rfl
                      refine pure_ (i := 10) (N := some 118) (v := ?_) (a' := ?_) #[true, true, true, true, true, true, true, true, true, true, true, false, false, false, false] rfl rfl (by kernel_rfl) (fun _ _ _ h => h) (Or.inl ⟨by rfl, ?_⟩) ?_ ?_
                      rotate_left
                      · intro w'
                        go_simp
                        with_reducible rfl
                      rotate_left
                      · simp only [Act.put, List.setIfInBounds_toArray, List.set_cons_zero, List.set_cons_succ, i64_w, i32_w]
                        rfl
                      refine pure_ (i := 11) (N := some 129) (v := ?_) (a' := ?_) #[true, true, true, true, true, true, true, true, true, true, true, true, false, false, false] rfl rfl (by kernel_rfl) (fun _ _ _ h => h) (Or.inl ⟨by rfl, ?_⟩) ?_ ?_
                      rotate_left
                      · intro w'
                        go_simp
                        with_reducible rfl
                      rotate_left
                      · simp only [Act.put, List.setIfInBounds_toArray, List.set_cons_zero, List.set_cons_succ, i64_w, i32_w]
                        rfl
                      refine pure_ (i := 12) (N := some 130) (v := ?_) (a' := ?_) #[true, true, true, true, true, true, true, true, true, true, true, true, true, false, false] rfl rfl (by kernel_rfl) (fun _ _ _ h => h) (Or.inl ⟨by rfl, ?_⟩) ?_ ?_
                      rotate_left
                      · intro w'
                        go_simp
                        with_reducible rfl
                      rotate_left
                      · simp only [Act.put, List.setIfInBounds_toArray, List.set_cons_zero, List.set_cons_succ, i64_w, i32_w]
                        rfl
                      refine pure_ (i := 13) (N := some 17) (v := ?_) (a' := ?_) #[true, true, true, true, true, true, true, true, true, true, true, true, true, true, false] rfl rfl (by kernel_rfl) (fun _ _ _ h => h) (Or.inl ⟨by rfl, ?_⟩) ?_ ?_
                      rotate_left
                      · intro w'
                        go_simp
                        with_reducible rfl
                      rotate_left
                      · simp only [Act.put, List.setIfInBounds_toArray, List.set_cons_zero, List.set_cons_succ, i64_w, i32_w]
                        rfl
                      refine pure_ (i := 14) (N := some 18) (v := ?_) (a' := ?_) #[true, true, true, true, true, true, true, true, true, true, true, true, true, true, true] rfl rfl (by kernel_rfl) (fun _ _ _ h => h) (Or.inl ⟨by rfl, ?_⟩) ?_ ?_
                      rotate_left
                      · intro w'
                        go_simp
                        with_reducible rfl
                      rotate_left
                      · simp only [Act.put, List.setIfInBounds_toArray, List.set_cons_zero, List.set_cons_succ, i64_w, i32_w]
                        rfl
                      refine done_ (by kernel_rfl) ?_
                      have S8 := Aside0.mk ((SW.out.below (below_drew1 (Below.refl _ _))).below hb8)
                      clear hb8 hHeld c32a c32b SW BW WI
                      go_wp2
                      rw [JW.out]
                      go_roundw
                      case measure => exact measn hlt2
                      case rel => exact ⟨j + 1, hlt2, by go_num, _, _, _, _, S8⟩
        · have HO := Aside0.mk (show who < 0 ∨ 16 ≤ who from .inr ho)
          have g1 : decide ((0 : Int) ≤ who) = true := decide_eq_true (by omega)
          have g2 : decide (who < 16) = false := decide_eq_false (by omega)
          clear hin ho
          cases fr with
          | true =>
            as_aux_lemma =>
              have SB := Aside0.mk (SS.out.below (below_alloc (Below.refl _ _) (.cells #[.int .i64 who, .int .i64 what, .bool al, .bool true] 31)))
              clear SS
              go_wp2
              go_loopw [11, 12] (fun n x w' => n = .int .i64 0 ∧ x = .int .i64 0 ∧ Aside0 (St ⟨g, g⟩ mb gn w l rv m cs m w')) (fun _ _ _ => 0)
              case atStart => exact ⟨rfl, rfl, SB⟩
              case round =>
                clear SB
                obtain ⟨rfl, rfl, SB⟩ := hrel
                go_wp2_with (first | (go_at_call 7; fail))
                refine (free_out SB.out.tab SB.out.inv who HO.out).mono ?_
                rintro e w6 ⟨rfl, hb⟩
                have S6 := Aside0.mk (SB.out.below hb)
                clear hb SB
                go_wp2
                rw [JW.out]
                go_roundw
                case measure => exact measn hlt2
                case rel => exact ⟨j + 1, hlt2, by go_num, _, _, _, _, S6⟩
          | false =>
            as_aux_lemma =>
              obtain ⟨ab, hab⟩ : ∃ ab, wr.heap.size = ab := ⟨_, rfl⟩
              have B1 := below_alloc (below_alloc (Below.refl wr.heap.size wr) (.cells #[.int .i64 who, .int .i64 what, .bool al, .bool false] 31)) (.cells #[] 3)
              have X1 := blk_alloc (heap_alloc_new wr (.cells #[.int .i64 who, .int .i64 what, .bool al, .bool false] 31)) (.cells #[] 3)
              have X2 := heap_alloc_new (wr.alloc (.cells #[.int .i64 who, .int .i64 what, .bool al, .bool false] 31)) (.cells #[] 3)
              rw [World.size_alloc] at X2
              rw [hab] at X1 X2 B1
              have R0 := Aside0.mk (ints_row (base := ab + 1) (cap := 0) (ok := fun _ => True) (ws := []) X2 (Nat.le_refl _) trivial rfl (Nat.le_refl _) (Nat.zero_le _) rfl rfl)
              have BW1 := Aside0.mk B1
              have BXC := Aside0.mk X1
              have EAB := Aside0.mk hab
              have y4 : (0 : Int) ≤ (k : Int) := by omega
              have y5 : (k : Int) < 6 := by omega
              clear X1 X2 B1
              go_wp2
              obtain ⟨wS, hwS⟩ : ∃ W, (wr.alloc (.cells #[.int .i64 who, .int .i64 what, .bool al, .bool false] 31)).alloc (.cells #[] 3) = W := ⟨_, rfl⟩
              rw [hwS] at R0 BW1 BXC ⊢
              clear hwS hab y0 y1 y2 y3
              have SK := Aside0.mk (show ∀ W, Below (ab + 1) wS W → St ⟨g, g⟩ mb gn w l rv m cs m W from fun W hW => SS.out.below (by rw [EAB.out]; exact BW1.out.trans (hW.mono (Nat.le_succ _))))
              have BK := Aside0.mk (show ∀ W, Below (ab + 1) wS W → W.heap[ab]? = some (.cells #[.int .i64 who, .int .i64 what, .bool al, .bool false] 31 (0, 0)) from fun W hW => (hW.block ab (Nat.lt_succ_self _)).trans BXC.out)
              have SZ := Aside0.mk (show ab < wS.heap.size from blk_lt BXC.out)
              have OWN := Aside0.mk (show ∀ q, rv.ownBlock = some q → q < ab from fun q hq => EAB.out ▸ Kd.R_lt SS.out.tab.row q hq)
              have GLT := Aside0.mk (show g < ab from EAB.out ▸ blk_lt SS.out.tab.cells)
              clear SS BW1 BXC
              go_loopw [14, 15] (fun u x w' => ∃ n : Nat, n ≤ 16 ∧ u = .bool (any2 m k n) ∧ x = .int .i64 (n : Int) ∧ Aside0 (Below (ab + 1) wS w' ∧ Kd.R (Kd.int .i64) 3 w' (ab + 1) (fun _ => True) (.slice (some ⟨ab + 1, 0, none⟩) 0 0) [])) (fun _ x _ => 16 - (intOf x).toNat)
              case atStart => exact ⟨0, Nat.zero_le _, rfl, rfl, .mk ⟨Below.refl _ _, R0.out⟩⟩
              case round =>
                clear R0
                obtain ⟨n, hn, rfl, rfl, WI⟩ := hrel
                by_cases hln : n < 16
                · have n0 : decide ((n : Int) < 16) = true := decide_eq_true (by omega)
                  have n1 : decide (n < 16) = true := decide_eq_true hln
                  have n2 : (0 : Int) ≤ (n : Int) := by omega
                  have n3 : (n : Int) < 16 := by omega
                  have mcl := (SK.out _ WI.out.1).cell n k hln hk
                  have hA := Aside0.mk (any2_succ m k n)
                  obtain ⟨v, hv⟩ : ∃ v, m n k = v := ⟨_, rfl⟩
                  rw [hv] at mcl hA
                  obtain ⟨bb, hbb⟩ : ∃ bb, any2 m k n = bb := ⟨_, rfl⟩
                  rw [hbb] at hA ⊢
                  clear hbb hv
                  cases bb with
                  | true =>
                    go_wp2
                    exact ⟨⟨n + 1, hln, by rw [hA.out]; rfl, by go_num, WI⟩, meas6 hln⟩
                  | false =>
                    go_wp2
                    exact ⟨⟨n + 1, hln, by rw [hA.out]; rfl, by go_num, WI⟩, meas6 hln⟩
                · obtain rfl : n = 16 := by omega
                  have n0 : decide (((16 : Nat) : Int) < 16) = false := by decide
                  have n1 : decide ((16 : Int) < 16) = false := by decide
                  rw [show ((16 : Nat) : Int) = 16 from rfl]
                  obtain ⟨T2, hT2⟩ : ∃ T2, any2 m k 16 = T2 := ⟨_, rfl⟩
                  have ET2 := Aside0.mk hT2
                  rw [hT2]
                  clear hT2
                  go_wp2
                  go_loopw [13, 16] (fun u x w' => ∃ n : Nat, n ≤ 16 ∧ x = .int .i64 (n : Int) ∧ ∃ A c, u = .slice A (wantM m who k al n).length c ∧ Aside0 (Below (ab + 1) wS w' ∧ Kd.R (Kd.int .i64) 3 w' (ab + 1) (fun _ => True) (.slice A (wantM m who k al n).length c) (wantM m who k al n))) (fun _ x _ => 16 - (intOf x).toNat)
                  case atStart => exact ⟨0, Nat.zero_le _, rfl, _, _, by rw [wantM_zero]; rfl, .mk (by rw [wantM_zero]; exact WI.out)⟩
                  case round =>
                    clear WI
                    obtain ⟨n, hn, rfl, A4, c4, rfl, WI⟩ := hrel
                    by_cases hln : n < 16
                    · have n0 : decide ((n : Int) < 16) = true := decide_eq_true (by omega)
                      have n1 : decide (n < 16) = true := decide_eq_true hln
                      have n2 : (0 : Int) ≤ (n : Int) := by omega
                      have n3 : (n : Int) < 16 := by omega
                      have mcl := (SK.out _ WI.out.1).cell n k hln hk
                      have bxc : wr.cell? ⟨ab, 2, none⟩ = some (.bool al) := blk_cell (BK.out _ WI.out.1) 2
                      have hWs := Aside0.mk (wantM_succ m who k n al)
                      have hval := Aside0.mk ((SK.out _ WI.out.1).inv.val n k hln hk)
                      obtain ⟨v, hv⟩ : ∃ v, m n k = v := ⟨_, rfl⟩
                      rw [hv] at mcl hWs hval
                      rw [ET2.out] at hWs
                      have hle := Aside0.mk (wantM_le m who k n al)
                      clear hv
                      by_cases h0 : 0 < v
                      · have v0 : decide (0 < v) = true := decide_eq_true h0
                        have hv0 : v ≠ 0 := by omega
                        by_cases h2 : (n : Int) = who
                        · exact absurd h2 (by have := HO.out; omega)
                        · have v1 : ((n : Int) == who) = false := beq_eq_false_iff_ne.mpr h2
                          cases al with
                          | true =>
                            have hE := Aside0.mk (show wantM m who k true (n + 1) = wantM m who k true n ++ [(n : Int)] from by rw [hWs.out, if_pos ⟨⟨hv0, h2⟩, rfl⟩])
                            have hnq := heap_alloc_new wr (.cells #[.int .i64 (n : Int)] 3)
                            have ONE := Aside0.mk (Kd.R_reads' (ints_row (base := 0) (cap := 1) (n := 1) (ok := fun _ => True) (ws := [(n : Int)]) hnq (Nat.zero_le _) trivial rfl (Nat.le_refl _) (by decide) rfl rfl)).2.2
                            clear hnq
                            obtain ⟨L, hL⟩ : ∃ L, wantM m who k true n = L := ⟨_, rfl⟩
                            rw [hL] at hE WI hle ⊢
                            clear hL
                            go_wp2_with ((with_reducible refine gate_builtin (b := .append) (xs := #[.tmp 114, .tmp 116]) rfl ?_); at_builtin; refine Kd.R_append_row (Value.int .i64) 0 (h1 := fun _ => rfl) (w0 := wS) (ab + 1) rfl (.tmp 114) (.tmp 116) 33 3 (.int .i64 0) 8 rfl Try.underlying33 info3 rfl (by decide) (.slice A4 L.length c4) L [(n : Int)] (some ⟨wr.heap.size, 0, none⟩) 1 1 (fun _ => True) rfl rfl ?aF ?aO ?aR ?aB ?aS ?aL ?_)
                            case aF => exact fun _ _ => trivial
                            case aO => exact Kd.R_below WI.out.2 (below_alloc (Below.refl _ _) _)
                            case aR => exact ONE.out
                            case aB => exact WI.out.1.alloc (by have := WI.out.1.size; have := SZ.out; omega) _
                            case aS => rw [World.size_alloc]; have := WI.out.1.size; have := SZ.out; omega
                            case aL => have := hle.out; omega
                            intro v5 w5 hR5 hB5 hG5 hO5
                            obtain ⟨A5, c5, rfl⟩ := Kd.R_slice hR5
                            have H5 := Aside0.mk (And.intro hB5 hR5)
                            clear hR5 hB5 hG5 hO5
                            go_wp2
                            exact ⟨⟨n + 1, hln, by go_num, A5, c5, by rw [hE.out], by rw [hE.out]; exact H5⟩, meas6 hln⟩
                          | false =>
                            cases T2 with
                            | true =>
                              have hE := Aside0.mk (show wantM m who k false (n + 1) = wantM m who k false n ++ [(n : Int)] from by rw [hWs.out, if_pos ⟨⟨hv0, h2⟩, rfl⟩])
                              have hnq := heap_alloc_new wr (.cells #[.int .i64 (n : Int)] 3)
                              have ONE := Aside0.mk (Kd.R_reads' (ints_row (base := 0) (cap := 1) (n := 1) (ok := fun _ => True) (ws := [(n : Int)]) hnq (Nat.zero_le _) trivial rfl (Nat.le_refl _) (by decide) rfl rfl)).2.2
                              clear hnq
                              obtain ⟨L, hL⟩ : ∃ L, wantM m who k false n = L := ⟨_, rfl⟩
                              rw [hL] at hE WI hle ⊢
                              clear hL
                              go_wp2_with ((with_reducible refine gate_builtin (b := .append) (xs := #[.tmp 114, .tmp 116]) rfl ?_); at_builtin; refine Kd.R_append_row (Value.int .i64) 0 (h1 := fun _ => rfl) (w0 := wS) (ab + 1) rfl (.tmp 114) (.tmp 116) 33 3 (.int .i64 0) 8 rfl Try.underlying33 info3 rfl (by decide) (.slice A4 L.length c4) L [(n : Int)] (some ⟨wr.heap.size, 0, none⟩) 1 1 (fun _ => True) rfl rfl ?aF ?aO ?aR ?aB ?aS ?aL ?_)
                              case aF => exact fun _ _ => trivial
                              case aO => exact Kd.R_below WI.out.2 (below_alloc (Below.refl _ _) _)
                              case aR => exact ONE.out
                              case aB => exact WI.out.1.alloc (by have := WI.out.1.size; have := SZ.out; omega) _
                              case aS => rw [World.size_alloc]; have := WI.out.1.size; have := SZ.out; omega
                              case aL => have := hle.out; omega
                              intro v5 w5 hR5 hB5 hG5 hO5
                              obtain ⟨A5, c5, rfl⟩ := Kd.R_slice hR5
                              have H5 := Aside0.mk (And.intro hB5 hR5)
                              clear hR5 hB5 hG5 hO5
                              go_wp2
                              exact ⟨⟨n + 1, hln, by go_num, A5, c5, by rw [hE.out], by rw [hE.out]; exact H5⟩, meas6 hln⟩
                            | false =>
                              have hE := Aside0.mk (show wantM m who k false (n + 1) = wantM m who k false n from by rw [hWs.out, if_neg (fun d => by cases d.2), List.append_nil])
                              go_wp2
                              exact ⟨⟨n + 1, hln, by go_num, A4, c4, by rw [hE.out], by rw [hE.out]; exact WI⟩, meas6 hln⟩
                      · have v0 : decide (0 < v) = false := decide_eq_false h0
                        have hE := Aside0.mk (show wantM m who k al (n + 1) = wantM m who k al n from by rw [hWs.out, if_neg (fun d => d.1.1 (by rcases hval.out with e | e | e <;> omega)), List.append_nil])
                        go_wp2
                        exact ⟨⟨n + 1, hln, by go_num, A4, c4, by rw [hE.out], by rw [hE.out]; exact WI⟩, meas6 hln⟩
                    · obtain rfl : n = 16 := by omega
                      have n0 : decide (((16 : Nat) : Int) < 16) = false := by decide
                      have n1 : decide ((16 : Int) < 16) = false := by decide
                      rw [show ((16 : Nat) : Int) = 16 from rfl]
                      have SW := Aside0.mk (SK.out _ WI.out.1)
                      have BW := Aside0.mk (BK.out _ WI.out.1)
                      have c32a : wr.cell? ⟨gn, k, none⟩ = some (.string (nmC k)) := SW.out.name k hk
                      have c32b : wr.cell? ⟨ab, 2, none⟩ = some (.bool al) := blk_cell BW.out 2
                      go_wp2
                      refine start_ (n := 15) (S := fun w' => w'.cell? ⟨gn, k, none⟩ = some (.string (nmC k)) ∧ w'.cell? ⟨ab, 2, none⟩ = some (.bool al)) (ds := [9]) #[false, false, false, false, false, false, false, false, false, false, false, false, false, false, false] (by kernel_rfl) rfl rfl ⟨cell_dr c32a, cell_dr c32b⟩ (fun hHeld => ?_)
                      refine pure_ (i := 0) (N := some 119) (v := ?_) (a' := ?_) #[true, false, false, false, false, false, false, false, false, false, false, false, false, false, false] rfl rfl (by kernel_rfl) (fun _ _ _ h => h) (Or.inl ⟨by rfl, ?_⟩) ?_ ?_
                      rotate_left
                      · intro w'
                        go_simp
                        with_reducible rfl
                      rotate_left
                      · simp only [Act.put, List.setIfInBounds_toArray, List.set_cons_zero, List.set_cons_succ, i64_w, i32_w]
                        rfl
                      refine pure_ (i := 1) (N := some 120) (v := ?_) (a' := ?_) #[true, true, false, false, false, false, false, false, false, false, false, false, false, false, false] rfl rfl (by kernel_rfl) (fun _ _ _ h => h) (Or.inl ⟨by rfl, ?_⟩) ?_ ?_
                      rotate_left
                      · intro w'
                        go_simp
                        with_reducible rfl
                      rotate_left
                      · simp only [Act.put, List.setIfInBounds_toArray, List.set_cons_zero, List.set_cons_succ, i64_w, i32_w]
                        rfl
                      refine pure_ (i := 2) (N := some 121) (v := ?_) (a' := ?_) #[true, true, true, false, false, false, false, false, false, false, false, false, false, false, false] rfl rfl (by kernel_rfl) (fun _ _ _ h => h) (Or.inl ⟨by rfl, ?_⟩) ?_ ?_
                      rotate_left
                      · intro w'
                        go_simp
                        with_reducible rfl
                      rotate_left
                      · simp only [Act.put, List.setIfInBounds_toArray, List.set_cons_zero, List.set_cons_succ, i64_w, i32_w]
                        rfl
                      refine pure_ (i := 3) (N := some 122) (v := ?_) (a' := ?_) #[true, true, true, true, false, false, false, false, false, false, false, false, false, false, false] rfl rfl (by kernel_rfl) (fun _ _ _ h => h) (Or.inl ⟨by rfl, ?_⟩) ?_ ?_
                      rotate_left
                      · intro w'
                        go_simp
                        with_reducible rfl
                      rotate_left
                      · simp only [Act.put, List.setIfInBounds_toArray, List.set_cons_zero, List.set_cons_succ, i64_w, i32_w]
                        rfl
                      refine pure_ (i := 4) (N := some 123) (v := ?_) (a' := ?_) #[true, true, true, true, true, false, false, false, false, false, false, false, false, false, false] rfl rfl (by kernel_rfl) (fun _ _ _ h => h) (Or.inl ⟨by rfl, ?_⟩) ?_ ?_
                      rotate_left
                      · intro w'
                        go_simp
                        with_reducible rfl
                      rotate_left
                      · simp only [Act.put, List.setIfInBounds_toArray, List.set_cons_zero, List.set_cons_succ, i64_w, i32_w]
                        rfl
                      refine pure_ (i := 6) (N := some 125) (v := ?_) (a' := ?_) #[true, true, true, true, true, false, true, false, false, false, false, false, false, false, false] rfl rfl (by kernel_rfl) (fun _ _ _ h => h) (Or.inl ⟨by rfl, ?_⟩) ?_ ?_
                      rotate_left
                      · intro w'
                        go_simp
                        with_reducible rfl
                      rotate_left
                      · simp only [Act.put, List.setIfInBounds_toArray, List.set_cons_zero, List.set_cons_succ, i64_w, i32_w]
                        rfl
                      refine take_ (i := 5) (N := some 124) (v := ?_) (a' := ?_) #[true, true, true, true, true, true, true, false, false, false, false, false, false, false, false] rfl rfl (by kernel_rfl) (fun _ _ _ h => h) (Or.inl ⟨by rfl, ?_⟩) hHeld ?_ ?_
                      rotate_left
                      · rintro w' ⟨s0, s1⟩
                        go_simp
                        with_reducible rfl
                      rotate_left
                      · simp only [Act.put, List.setIfInBounds_toArray, List.set_cons_zero, List.set_cons_succ, i64_w, i32_w]
                        rfl
                      refine take_ (i := 7) (N := some 126) (v := ?_) (a' := ?_) #[true, true, true, true, true, true, true, true, false, false, false, false, false, false, false] rfl rfl (by kernel_rfl) (fun _ _ _ h => h) (Or.inl ⟨by rfl, ?_⟩) hHeld ?_ ?_
                      rotate_left
                      · rintro w' ⟨s0, s1⟩
                        go_simp
                        with_reducible rfl
                      rotate_left
                      · simp only [Act.put, List.setIfInBounds_toArray, List.set_cons_zero, List.set_cons_succ, i64_w, i32_w]
                        rfl
                      refine pure_ (i := 8) (N := some 127) (v := ?_) (a' := ?_) #[true, true, true, true, true, true, true, true, true, false, false, false, false, false, false] rfl rfl (by kernel_rfl) (fun _ _ _ h => h) (Or.inl ⟨by rfl, ?_⟩) ?_ ?_
                      rotate_left
                      · intro w'
                        go_simp
                        with_reducible rfl
                      rotate_left
                      · simp only [Act.put, List.setIfInBounds_toArray, List.set_cons_zero, List.set_cons_succ, i64_w, i32_w]
                        rfl
                      refine last_ (i := 9) (N := some 128) #[true, true, true, true, true, true, true, true, true, true, false, false, false, false, false] rfl rfl (by kernel_rfl) (by decide) (fun K hK => ?_)
                      refine goes_ Try.func8 (by kernel_rfl) rfl #[.pointer (some ⟨g, 0, none⟩), .int .i64 who, .agg #[.string (nmC k), .bool al]] (by rfl) rfl rfl (by simp only [List.map_toArray, List.map_cons, List.map_nil]; rfl) ?_
                      with_reducible refine (take_out g who HO.out (nmC k) al _).mono ?_
                      rintro e w8 ⟨rfl, hb8⟩
                      refine ⟨_, rfl, ?_⟩
                      refine hK.out _ _ ?_
                      clear hK K
                      refine norm_ (a' := ?_) ?_ ?_
                      rotate_left
                      · show Act.put _ (some 128) _ = _
                        simp only [Act.put, List.setIfInBounds_toArray, List.set_cons_zero, List.set_cons_succ, i64_w, i32_w]
                        rfl
                      refine pure_ (i := 10) (N := some 118) (v := ?_) (a' := ?_) #[true, true, true, true, true, true, true, true, true, true, true, false, false, false, false] rfl rfl (by kernel_rfl) (fun _ _ _ h => h) (Or.inl ⟨by rfl, ?_⟩) ?_ ?_
                      rotate_left
                      · intro w'
                        go_simp
                        with_reducible rfl
                      rotate_left
                      · simp only [Act.put, List.setIfInBounds_toArray, List.set_cons_zero, List.set_cons_succ, i64_w, i32_w]
                        rfl
                      refine pure_ (i := 11) (N := some 129) (v := ?_) (a' := ?_) #[true, true, true, true, true, true, true, true, true, true, true, true, false, false, false] rfl rfl (by kernel_rfl) (fun _ _ _ h => h) (Or.inl ⟨by rfl, ?_⟩) ?_ ?_
                      rotate_left
                      · intro w'
                        go_simp
                        with_reducible rfl
                      rotate_left
                      · simp only [Act.put, List.setIfInBounds_toArray, List.set_cons_zero, List.set_cons_succ, i64_w, i32_w]
                        rfl
                      refine pure_ (i := 12) (N := some 130) (v := ?_) (a' := ?_) #[true, true, true, true, true, true, true, true, true, true, true, true, true, false, false] rfl rfl (by kernel_rfl) (fun _ _ _ h => h) (Or.inl ⟨by rfl, ?_⟩) ?_ ?_
                      rotate_left
                      · intro w'
                        go_simp
                        with_reducible rfl
                      rotate_left
                      · simp only [Act.put, List.setIfInBounds_toArray, List.set_cons_zero, List.set_cons_succ, i64_w, i32_w]
                        rfl
                      refine pure_ (i := 13) (N := some 17) (v := ?_) (a' := ?_) #[true, true, true, true, true, true, true, true, true, true, true, true, true, true, false] rfl rfl (by kernel_rfl) (fun _ _ _ h => h) (Or.inl ⟨by rfl, ?_⟩) ?_ ?_
                      rotate_left
                      · intro w'
                        go_simp
                        with_reducible rfl
                      rotate_left
                      · simp only [Act.put, List.setIfInBounds_toArray, List.set_cons_zero, List.set_cons_succ, i64_w, i32_w]
                        rfl
                      refine pure_ (i := 14) (N := some 18) (v := ?_) (a' := ?_) #[true, true, true, true, true, true, true, true, true, true, true, true, true, true, true] rfl rfl (by kernel_rfl) (fun _ _ _ h => h) (Or.inl ⟨by rfl, ?_⟩) ?_ ?_
                      rotate_left
                      · intro w'
                        go_simp
                        with_reducible rfl
                      rotate_left
                      · simp only [Act.put, List.setIfInBounds_toArray, List.set_cons_zero, List.set_cons_succ, i64_w, i32_w]
                        rfl
                      refine done_ (by kernel_rfl) ?_
                      have S8 := Aside0.mk ((SW.out.below (below_drew1 (Below.refl _ _))).below hb8)
                      clear hb8 hHeld c32a c32b SW BW WI
                      go_wp2
                      rw [JW.out]
                      go_roundw
                      case measure => exact measn hlt2
                      case rel => exact ⟨j + 1, hlt2, by go_num, _, _, _, _, S8⟩
    · have hbel := Aside0.mk (EG.out ▸ SS.out.bel)
      clear SS
      by_cases hl1 : j < acts.length
      · have q0 : decide ((j : Int) < (acts.length : Int)) = true := decide_eq_true (by omega)
        have q1 : decide (j < acts.length) = true := decide_eq_true hl1
        have q2 : decide ((j : Int) < 80) = false := decide_eq_false (by omega)
        have q3 : decide (j < 80) = false := decide_eq_false (by omega)
        go_wp2
        go_ret
        exact ⟨rfl, hbel.out⟩
      · have q0 : decide ((j : Int) < (acts.length : Int)) = false := decide_eq_false (by omega)
        have q1 : decide (j < acts.length) = false := decide_eq_false hl1
        go_wp2
        go_ret
        exact ⟨rfl, hbel.out⟩
end Go.Proofs.Ytonbonailghjjaa.Lk
