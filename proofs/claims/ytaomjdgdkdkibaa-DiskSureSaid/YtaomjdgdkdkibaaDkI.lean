/- A disk that no cut is planned for: Flush makes all that was written sure. -/
import Derived.Test.YtaomjdgdkdkibaaDkG
namespace Go.Proofs.Ytaomjdgdkdkibaa.Dk
open Go.RowKit Go.Maps Go.Proofs.YtaomjdgdkdkibaaW.PrintWords Go.Proofs.YtaomjdgdkdkibaaW.PrintLast Go.Proofs.YtaomjdgdkdkibaaW.PrintMore Go.Proofs.Ytaomjdgdkdkibaa.XB Go.Proofs.Ytaomjdgdkdkibaa.PDiskNone
attribute [local go_sem] max2_int min2_int max_two min_two max_three min_three max_four min_four
set_option linter.unusedVariables false
set_option linter.unusedSimpArgs false
/-- a disk, of whose row of what was written nothing is told -/
structure Disk0 (w : World) (p : At) (N : Nat) (sl : List ByteArray) (n : Nat) (f : Int → Option ByteArray) (rv : Value) (a : Int) (A : Option Addr) (c : Nat) (dead : Bool) : Prop where
  cells : DiskC w p.g (.slice (some ⟨p.s, 0, none⟩) N N) (.map (some p.m)) rv a (.slice A 0 c) dead
  sure : w.heap[p.s]? = some (.cells (strs sl) 9 (0, 0))
  len : sl.length = N
  small : N ≤ 4096
  map : IsM w p.m n f
  gs : p.s ≠ p.g
  gm : p.m ≠ p.g
  sm : p.s ≠ p.m
  bg : p.B ≤ p.g
  bs : p.B ≤ p.s
  bm : p.B ≤ p.m
variable {w w' : World} {p : At} {N n : Nat} {sl : List ByteArray} {f : Int → Option ByteArray} {rv : Value} {xs : List Int} {a : Int} {A : Option Addr} {c : Nat} {dead : Bool}
theorem Disk.to0 (h : Disk w p N sl n f rv xs a A c dead) : Disk0 w p N sl n f rv a A c dead := ⟨h.cells, h.sure, h.len, h.small, h.map, h.gs, h.gm, h.sm, h.bg, h.bs, h.bm⟩
theorem Disk0.move (h : Disk0 w p N sl n f rv a A c dead) (r : Nat) (hr : w.heap.size ≤ r ∨ (r ≠ p.g ∧ r ≠ p.s ∧ r ≠ p.m)) (hm : ∀ k, k < w.heap.size → k ≠ r → w'.heap[k]? = w.heap[k]?) : Disk0 w' p N sl n f rv a A c dead := by
  have l1 := blk_lt h.cells
  have l2 := blk_lt h.sure
  have l3 := h.map.lt
  exact ⟨(hm _ l1 (by omega)).trans h.cells, (hm _ l2 (by omega)).trans h.sure, h.len, h.small, h.map.kept (hm _ l3 (by omega)), h.gs, h.gm, h.sm, h.bg, h.bs, h.bm⟩
theorem Disk0.store (h : Disk0 w p N sl n f rv a A c dead) (k : Nat) (v : ByteArray) : Disk0 (w.setCell ⟨p.s, k, none⟩ (.string v)) p N (sl.set k v) n f rv a A c dead := by
  have hs := blk_set h.sure k (.string v)
  rw [strs_set] at hs
  exact ⟨(Below.heap_setCell _ _ _ _ (Ne.symm h.gs)).trans h.cells, hs, by rw [List.length_set]; exact h.len, h.small, h.map.kept (Below.heap_setCell _ _ _ _ (Ne.symm h.sm)), h.gs, h.gm, h.sm, h.bg, h.bs, h.bm⟩
theorem Disk0.base (h : Disk0 w p N sl n f rv a A c dead) : p.B ≤ w.heap.size := Nat.le_trans h.bg (Nat.le_of_lt (blk_lt h.cells))
theorem Disk0.cell_of (h : Disk0 w p N sl n f rv a A c dead) (k : Nat) (hk : k < N) : w.cell? ⟨p.s, k, none⟩ = some (.string (sl.getD k ⟨#[]⟩)) := by
  rw [blk_cell h.sure k, strs, List.getElem?_toArray, List.getElem?_map, List.getD_eq_getElem?_getD, List.getElem?_eq_getElem (by rw [h.len]; exact hk)]
  rfl
set_option maxHeartbeats 8000000 in
set_option maxRecDepth 100000 in
theorem forget0_calls (h : Disk0 w p N sl n f rv a A c dead) :
    Calls Try.prog 24 #[.pointer (some ⟨p.g, 0, none⟩)] w fun e w' => e = .returned (.tuple #[]) ∧ Disk w' { p with m := w.heap.size } N sl 0 (fun _ => none) (.slice none 0 0) [] a A c dead ∧ Below p.B w w' := by
  have hmm := @run_makeMap Try.prog
  have h1 := blk_alloc h.cells (.map #[] 0)
  have hs0 := blk_lt h.cells
  have hs1 := blk_lt h.sure
  have c1 : (w.alloc (.map #[] 0)).cell? ⟨p.g, 1, none⟩ = some (.map (some p.m)) := blk_cell h1 1
  have f1 : (w.alloc (.map #[] 0)).frozen? ⟨p.g, 1, none⟩ = false := blk_frozen h1 1
  have h2 := blk_set h1 1 (.map (some w.heap.size))
  have c2 : ((w.alloc (.map #[] 0)).setCell ⟨p.g, 1, none⟩ (.map (some w.heap.size))).cell? ⟨p.g, 2, none⟩ = some rv := blk_cell h2 2
  have f2 : ((w.alloc (.map #[] 0)).setCell ⟨p.g, 1, none⟩ (.map (some w.heap.size))).frozen? ⟨p.g, 2, none⟩ = false := blk_frozen h2 2
  have c0 : w.cell? ⟨p.g, 1, none⟩ = some (.map (some p.m)) := blk_cell h.cells 1
  have c3 : w.cell? ⟨p.g, 2, none⟩ = some rv := blk_cell h.cells 2
  have hne : ∀ k, k ≠ p.g → (((w.alloc (.map #[] 0)).setCell ⟨p.g, 1, none⟩ (.map (some w.heap.size))).setCell ⟨p.g, 2, none⟩ (.slice none 0 0)).heap[k]? = (w.alloc (.map #[] 0)).heap[k]? := fun k hk => (Below.heap_setCell _ _ _ _ hk).trans (Below.heap_setCell _ _ _ _ hk)
  have hgm : w.heap.size ≠ p.g := Nat.ne_of_gt hs0
  have H := Aside0.mk (show Disk (((w.alloc (.map #[] 0)).setCell ⟨p.g, 1, none⟩ (.map (some w.heap.size))).setCell ⟨p.g, 2, none⟩ (.slice none 0 0)) { p with m := w.heap.size } N sl 0 (fun _ => none) (.slice none 0 0) [] a A c dead from
    ⟨blk_set h2 2 (.slice none 0 0), (hne _ h.gs).trans (blk_alloc h.sure _), h.len, h.small, (IsM.empty ((hne _ hgm).trans (heap_alloc_new w _))), Kd.R_nil _ _ _ _ _, h.gs, hgm, Nat.ne_of_lt hs1, h.bg, h.bs, h.base⟩)
  have HB := Aside0.mk ((((Below.refl p.B w).alloc h.base (.map #[] 0)).setCell (p := ⟨p.g, 1, none⟩) h.bg (.map (some w.heap.size))).setCell (p := ⟨p.g, 2, none⟩) h.bg (.slice none 0 0))
  clear h h1 h2 hs0 hs1 hne hgm
  go_enter Try.func24, Try.ntmps24
  go_wp2
  (first | go_end0 | ((try simp only [Exit.inBlock, Exit.then]); refine bodyPost_ret (results_none rfl _ _ _) rfl ?_))
  exact ⟨rfl, H.out, HB.out⟩
/-- what a flush has laid so far: of the numbers still to come nothing -/
def Laid (sl sl' : List ByteArray) (f : Int → Option ByteArray) (left : Lit → Bool) : Prop :=
  ∀ i : Nat, i < sl.length → sl'.getD i ⟨#[]⟩ = if left (kl (i : Int)) then sl.getD i ⟨#[]⟩ else (f (i : Int)).getD (sl.getD i ⟨#[]⟩)
theorem getD_set (l : List ByteArray) (k i : Nat) (v : ByteArray) (hk : k < l.length) : (l.set k v).getD i ⟨#[]⟩ = if k = i then v else l.getD i ⟨#[]⟩ := by
  rw [List.getD_eq_getElem?_getD, List.getElem?_set]
  by_cases e : k = i
  · rw [if_pos e, if_pos e, if_pos hk]; rfl
  · rw [if_neg e, if_neg e, ← List.getD_eq_getElem?_getD]
theorem Laid.first (sl : List ByteArray) {D : DataW Unit} {f : Int → Option ByteArray} (ht : Tells D f) : Laid sl sl f (has D) := by
  intro i hi
  cases h : has D (kl (i : Int)) with
  | true => rw [if_pos rfl]
  | false =>
    rw [if_neg (by decide)]
    cases hf : f (i : Int) with
    | none => rfl
    | some v =>
      have := ((ht (i : Int)).1 v hf).1
      rw [h] at this
      cases this
theorem Laid.step {sl sl' : List ByteArray} {f : Int → Option ByteArray} {left : Lit → Bool} (h : Laid sl sl' f left) (hl : sl'.length = sl.length) (k : Nat) (hk : k < sl.length) (v : ByteArray) (hf : f (k : Int) = some v) : Laid sl (sl'.set k v) f (fun z => left z && !z.sameKey (kl (k : Int))) := by
  intro i hi
  rw [getD_set _ _ _ _ (by omega)]
  by_cases e : k = i
  · subst e
    rw [if_pos rfl, show (fun z : Lit => left z && !z.sameKey (kl (k : Int))) (kl (k : Int)) = (left (kl (k : Int)) && !(kl (k : Int)).sameKey (kl (k : Int))) from rfl, WideAt.sameKey_self (show WideAt.IsKeyLit (kl (k : Int)) from trivial)]
    simp [hf]
  · rw [if_neg e, h i hi, show (fun z : Lit => left z && !z.sameKey (kl (k : Int))) (kl (i : Int)) = (left (kl (i : Int)) && !(kl (i : Int)).sameKey (kl (k : Int))) from rfl, sameKey_ne (fun e2 : kl (i : Int) = kl (k : Int) => e (by injection e2 with _ e3; exact (Int.ofNat_inj.mp e3).symm))]
    simp
theorem told {D : DataW Unit} {f : Int → Option ByteArray} (ht : Tells D f) {x : Int} {v : ByteArray} (hat : ∀ zd, D.atKey (kl x) zd = .lit (.string v.data.toList)) : f x = some v := by
  have h1 := has_true_of_atKey hat
  cases hf : f x with
  | none =>
    have := (ht x).2 hf
    rw [h1] at this
    cases this
  | some u =>
    have e1 := ((ht x).1 u hf).2 (.map [])
    rw [hat (.map [])] at e1
    injection e1 with e1
    injection e1 with e1
    rw [str_ext e1]
theorem grown_set (w : World) (g i : Nat) (v : Value) : w.grownBy (w.setCell ⟨g, i, none⟩ v) (some g) := ⟨rfl, rfl, rfl, by simp [World.setCell], fun k hk hn => Below.heap_setCell _ _ _ _ (fun e => hn (by rw [e]))⟩
set_option maxHeartbeats 2000000 in
set_option maxRecDepth 100000 in
theorem flush_calls (h : Disk w p N sl n f rv xs a A c false) (hk : ∀ j v, f j = some v → ∃ k : Nat, j = (k : Int) ∧ k < N) (a0 : 0 ≤ a) (a1 : a < 4611686018427387904) :
    Calls Try.prog 9 #[.pointer (some ⟨p.g, 0, none⟩)] w fun e w' => e = .returned (.int .i64 0) ∧
      (∃ m' sl', Disk w' { p with m := m' } N sl' 0 (fun _ => none) (.slice none 0 0) [] (a + 1) A c false ∧ Laid sl sl' f (fun _ => false)) ∧ Below p.B w w' := by
  have H := Aside0.mk h
  have HKS := Aside0.mk hk
  clear h hk
  go_enter Try.func9, Try.ntmps9
  go_wp2_with (first | (go_at_call 17; fail))
  refine (act_calls H.out a0 a1).mono ?_
  rintro e w1 ⟨rfl, hd, hb⟩
  have H0 := Aside0.mk hd.to0
  have HB := Aside0.mk hb
  have c1 : w1.cell? ⟨p.g, 1, none⟩ = some (.map (some p.m)) := blk_cell hd.cells 1
  obtain ⟨D, ho, ht⟩ := hd.map
  have HO := Aside0.mk ho
  have HT := Aside0.mk ht
  clear H hd hb ho ht
  go_wp2_with (first | (at_range; refine wpList_range_own _ rfl _ 46 rfl 3 9 law3 under46 (plainElem Try.prog 9) p.m n D rfl HO.out ?_; intro w2 hrg hg hsz; have HRG := Aside0.mk hrg; have HG := Aside0.mk hg; have HSZ := Aside0.mk hsz; clear hrg hg hsz))
  go_frame
  have R0 := Aside0.mk (Nat.lt_of_le_of_lt (Nat.le_refl _) (Nat.lt_succ_self w1.heap.size))
  have H2 := Aside0.mk (H0.out.move (w' := w2) w1.heap.size (.inl (Nat.le_refl _)) (fun k hk _ => HG.out.block k hk (by simp)))
  have B2 := Aside0.mk (show Below p.B w w2 from HB.out.trans ⟨HG.out.os, HG.out.tape, HG.out.output, HG.out.size, fun k hk => HG.out.block k (Nat.lt_of_lt_of_le hk H0.out.base) (by simp)⟩)
  have RNE := Aside0.mk (show w1.heap.size ≠ p.g ∧ w1.heap.size ≠ p.s ∧ w1.heap.size ≠ p.m from ⟨Nat.ne_of_gt (blk_lt H0.out.cells), Nat.ne_of_gt (blk_lt H0.out.sure), Nat.ne_of_gt H0.out.map.lt⟩)
  have RB := Aside0.mk (H0.out.base)
  obtain ⟨r, hr⟩ : ∃ r, r = w1.heap.size := ⟨_, rfl⟩
  rw [← hr] at RNE RB HRG ⊢
  clear H0 HB HO HG HSZ R0 c1 hr
  go_loopw [16] (fun v16 w' => ∃ (left : Lit → Bool) (cnt : Nat) (sl' : List ByteArray), Aside0 (w'.ranges Try.prog 3 (plainElem Try.prog 9) p.m r n D left cnt) ∧ Aside0 (Disk0 w' p N sl' n f rv (a + 1) A c false) ∧ Aside0 (Laid sl sl' f left) ∧ Aside0 (sl'.length = sl.length) ∧ Aside0 (Below p.B w w')) (fun _ w' => w'.rangeLeft p.m r)
  case atStart => exact ⟨_, _, sl, HRG, H2, ⟨Laid.first sl HT.out⟩, ⟨rfl⟩, B2⟩
  case round =>
    clear HRG H2 B2
    obtain ⟨left, cnt, sl', HRG, H, HL, HE, HB⟩ := hrel
    have d0 : wr.cell? ⟨p.g, 0, none⟩ = some (.slice (some ⟨p.s, 0, none⟩) N N) := blk_cell H.out.cells 0
    go_wp2_with (first | (at_next; refine wpList_next_ranges_is _ rfl _ rfl 3 9 .i64 law3 Try.underlying3 Try.underlying9 p.m r n D left cnt rfl HRG.out ?_ ?_))
    · intro hc0 hl0
      have HL0 := Aside0.mk (show Laid sl sl' f (fun _ => false) from by
        have e : left = fun _ => false := funext hl0
        have h := HL.out
        rw [e] at h
        exact h)
      clear hc0 hl0
      go_wp2_with (first | (go_at_call 24; fail))
      refine (forget0_calls H.out).mono ?_
      rintro e w3 ⟨rfl, hd, hb⟩
      have HD := Aside0.mk hd
      have HB3 := Aside0.mk (HB.out.trans hb)
      clear hd hb
      go_wp2
      go_ret
      exact ⟨rfl, ⟨_, sl', HD.out, HL0.out⟩, HB3.out⟩
    · intro x v w3 cnt' hwx hvs hlx hat hrg1 hlt hg1 hs1 hen
      have fx := told HT.out hat
      obtain ⟨k, rfl, hkN⟩ := HKS.out x v fx
      have h3 := H.out.move (w' := w3) r (.inr RNE.out) (fun q hq hne => hg1.block q hq (fun e => hne (by injection e)))
      have e0 : w3.cell? ⟨p.g, 0, none⟩ = some (.slice (some ⟨p.s, 0, none⟩) N N) := blk_cell h3.cells 0
      have ck := h3.cell_of k hkN
      obtain ⟨u, hu⟩ : ∃ u, sl'.getD k ⟨#[]⟩ = u := ⟨_, rfl⟩
      rw [hu] at ck
      have fk : w3.frozen? ⟨p.s, k, none⟩ = false := blk_frozen h3.sure k
      have k0 : (0 : Int) ≤ (k : Int) := Int.natCast_nonneg k
      have k1 : (k : Int) < (N : Int) := Int.ofNat_lt.mpr hkN
      have R4 := Aside0.mk (hrg1.kept (grown_set w3 p.s k (.string v)) (by intro e; injection e with e; exact h3.sm e.symm) (by intro e; injection e with e; exact RNE.out.2.1 e))
      have H4 := Aside0.mk (h3.store k v)
      have L4 := Aside0.mk (HL.out.step HE.out k (by rw [← HE.out, h3.len]; exact hkN) v fx)
      have E4 := Aside0.mk (show (sl'.set k v).length = sl.length from by rw [List.length_set]; exact HE.out)
      have B3 := (show Below p.B wr w3 from ⟨hg1.os, hg1.tape, hg1.output, hg1.size, fun q hq => hg1.block q (Nat.lt_of_lt_of_le hq H.out.base) (by intro e; injection e with e; have := RB.out; omega)⟩)
      have B4 := Aside0.mk ((HB.out.trans B3).setCell (p := ⟨p.s, k, none⟩) h3.bs (.string v))
      have LT := Aside0.mk hlt
      clear h3 B3 hu fx hat hrg1 hg1 hwx hvs hlx hlt d0
      go_wp2
      refine ⟨⟨_, _, _, R4, H4, L4, E4, B4⟩, ?_⟩
      rw [R4.out.left_eq, HRG.out.left_eq]
      exact LT.out
end Go.Proofs.Ytaomjdgdkdkibaa.Dk
