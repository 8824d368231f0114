/- A disk's power fails: what is not sure has its fate; all else stays. -/
import Derived.Test.YtaomjdgdkdkibaaDkF
namespace Go.Proofs.Ytaomjdgdkdkibaa.Dk
open Go.RowKit Go.Proofs.YtaomjdgdkdkibaaW.PrintWords Go.Proofs.YtaomjdgdkdkibaaW.PrintLast Go.Proofs.YtaomjdgdkdkibaaW.PrintMore Go.Proofs.Ytaomjdgdkdkibaa.XB Go.Proofs.Ytaomjdgdkdkibaa.PDiskNone
attribute [local go_sem] max2_int min2_int max_two min_two max_three min_three max_four min_four
set_option linter.unusedVariables false
set_option linter.unusedSimpArgs false
variable {w w' : World} {p : At} {N n : Nat} {sl : List ByteArray} {f : Int → Option ByteArray} {rv : Value} {xs : List Int} {a : Int} {A : Option Addr} {c : Nat} {dead : Bool}
/-- all blocks have their size -/
def Full (sl : List ByteArray) : Prop := ∀ i, i < sl.length → (sl.getD i ⟨#[]⟩).size = 512
/-- what a failure leaves -/
structure Left (sl sl' : List ByteArray) (xs : List Int) (F : Int) : Prop where
  full : Full sl'
  len : sl'.length = sl.length
  same : ∀ i : Nat, ((i : Int) ∉ xs) → sl'.getD i ⟨#[]⟩ = sl.getD i ⟨#[]⟩
  zero : F = 0 → sl' = sl
theorem Left.set {sl sl' : List ByteArray} {xs : List Int} {F : Int} (h : Left sl sl' xs F) (k : Nat) (hk : (k : Int) ∈ xs) (v : ByteArray) (hv : v.size = 512) (hF : F = 0 → v = sl'.getD k ⟨#[]⟩) : Left sl (sl'.set k v) xs F := by
  refine ⟨fun i hi => ?_, by rw [List.length_set]; exact h.len, fun i hi => ?_, fun e => ?_⟩
  · rw [List.length_set] at hi
    rw [List.getD_eq_getElem?_getD, List.getElem?_set]
    by_cases e : k = i
    · rw [if_pos e, if_pos (by omega)]; exact hv
    · rw [if_neg e, ← List.getD_eq_getElem?_getD]; exact h.full i hi
  · rw [List.getD_eq_getElem?_getD, List.getElem?_set, if_neg (fun (e : k = i) => hi (by rw [← e]; exact hk)), ← List.getD_eq_getElem?_getD]
    exact h.same i hi
  · rw [hF e, ← h.zero e]
    apply List.ext_getElem?
    intro i
    rw [List.getElem?_set]
    by_cases e : k = i
    · subst e
      by_cases hl : k < sl'.length
      · rw [if_pos rfl, if_pos hl, List.getD_eq_getElem?_getD, List.getElem?_eq_getElem hl]; rfl
      · rw [if_pos rfl, if_neg hl, List.getElem?_eq_none (by omega)]
    · rw [if_neg e]
theorem strs_set (sl : List ByteArray) (k : Nat) (v : ByteArray) : (strs sl).setIfInBounds k (.string v) = strs (sl.set k v) := by
  apply Array.toList_inj.mp
  simp [strs, List.map_set]
theorem Disk.store (h : Disk w p N sl n f rv xs a A c dead) (k : Nat) (v : ByteArray) : Disk (w.setCell ⟨p.s, k, none⟩ (.string v)) p N (sl.set k v) n f rv xs a A c dead := by
  have hs := blk_set h.sure k (.string v)
  rw [strs_set] at hs
  exact ⟨(Below.heap_setCell _ _ _ _ (Ne.symm h.gs)).trans h.cells, hs, by rw [List.length_set]; exact h.len, h.small, h.map.kept (Below.heap_setCell _ _ _ _ (Ne.symm h.sm)), Kd.R_far (p := ⟨p.s, k, none⟩) h.row (fun q hq => hq.2.1) _, h.gs, h.gm, h.sm, h.bg, h.bs, h.bm⟩
theorem cell_of (h : Disk w p N sl n f rv xs a A c dead) (k : Nat) (hk : k < N) : w.cell? ⟨p.s, k, none⟩ = some (.string (sl.getD k ⟨#[]⟩)) := by
  rw [blk_cell h.sure k, strs, List.getElem?_toArray, List.getElem?_map, List.getD_eq_getElem?_getD, List.getElem?_eq_getElem (by rw [h.len]; exact hk)]
  rfl
theorem cut_size (a b : ByteArray) (ha : a.size = 512) (hb : b.size = 512) : (a.extract 0 256 ++ b.extract 256 512).size = 512 := by
  rw [ByteArray.size_append, ByteArray.size_extract, ByteArray.size_extract, ha, hb]
  rfl
theorem measx {j n : Nat} (h : j < n) : n - ((j : Int) + 1).toNat < n - ((j : Int)).toNat := by omega
set_option maxHeartbeats 8000000 in
set_option maxRecDepth 100000 in
theorem fail_nil (F : Int) (w : World) : Calls Try.prog 10 #[.pointer none, .int .u64 F] w fun e w' => e = .returned (.tuple #[]) ∧ w' = w := by
  go_enter Try.func10, Try.ntmps10
  go_wp2
  (first | go_end0 | ((try simp only [Exit.inBlock, Exit.then]); refine bodyPost_ret (results_none rfl _ _ _) rfl ?_))
  exact ⟨rfl, rfl⟩
set_option maxHeartbeats 2000000 in
set_option maxRecDepth 100000 in
theorem fail_calls (h : Disk w p N sl n f rv xs a A c false) (hx : ∀ x ∈ xs, ∃ k : Nat, x = (k : Int) ∧ k < N ∧ ∃ v, f x = some v ∧ v.size = 512) (hs : Full sl) (hxs : xs.length < 1000000) (F : Int) (hF : 0 ≤ F) :
    Calls Try.prog 10 #[.pointer (some ⟨p.g, 0, none⟩), .int .u64 F] w fun e w' => e = .returned (.tuple #[]) ∧ (∃ m' sl', Disk w' { p with m := m' } N sl' 0 (fun _ => none) (.slice none 0 0) [] a A c true ∧ Left sl sl' xs F) ∧ Below p.B w w' := by
  have c5 : w.cell? ⟨p.g, 5, none⟩ = some (.bool false) := blk_cell h.cells 5
  obtain ⟨A2, co, hrv⟩ := Kd.R_slice h.row
  subst hrv
  have c2 : w.cell? ⟨p.g, 2, none⟩ = some (.slice A2 xs.length co) := blk_cell h.cells 2
  have H := Aside0.mk h
  have HX := Aside0.mk hx
  have HL := Aside0.mk (show Left sl sl xs F from ⟨hs, rfl, fun _ _ => rfl, fun _ => rfl⟩)
  have HB := Aside0.mk (Below.refl p.B w)
  clear h hx hs
  go_enter Try.func10, Try.ntmps10
  go_wp2
  go_loopw [21] (fun i w' => ∃ (j : Nat) (sl' : List ByteArray), j ≤ xs.length ∧ i = .int .i64 (j : Int) ∧ Aside0 (Disk w' p N sl' n f (.slice A2 xs.length co) xs a A c false) ∧ Aside0 (Left sl sl' xs F) ∧ Aside0 (Below p.B w w')) (fun i _ => xs.length - (intOf i).toNat)
  case atStart => exact ⟨0, sl, Nat.zero_le _, rfl, H, HL, HB⟩
  case round =>
    clear H HL HB c5 c2
    obtain ⟨j, sl', hj, rfl, H, HL, HB⟩ := hrel
    by_cases hlt : j < xs.length
    · have q0 : decide ((j : Int) < (xs.length : Int)) = true := decide_eq_true (by omega)
      have q0n : decide (j < xs.length) = true := decide_eq_true hlt
      have j0 : (0 : Int) ≤ (j : Int) := by omega
      have j1 : (j : Int) < (xs.length : Int) := by omega
      obtain ⟨A4, c4, hv4, _, hrd⟩ := Kd.R_reads H.out.row
      injection hv4 with e1 e2 e3
      subst e1 e3
      obtain ⟨ad, rfl, hcj⟩ := (Kd.reads_of_C (enc := Value.int .i64) (d := (0 : Int)) (h1 := fun _ => rfl) hrd).2.2 (by omega)
      have hcx := hcj j hlt
      have hmem : xs.getD j 0 ∈ xs := by rw [List.getD_eq_getElem?_getD, List.getElem?_eq_getElem hlt]; exact List.getElem_mem hlt
      obtain ⟨k, hk, hkN, v, hfv, hv⟩ := HX.out _ hmem
      rw [hk] at hcx hmem hfv
      have k0 : (0 : Int) ≤ (k : Int) := by omega
      have k1 : (k : Int) < (N : Int) := by omega
      have d0 : wr.cell? ⟨p.g, 0, none⟩ = some (.slice (some ⟨p.s, 0, none⟩) N N) := blk_cell H.out.cells 0
      have d1 : wr.cell? ⟨p.g, 1, none⟩ = some (.map (some p.m)) := blk_cell H.out.cells 1
      have ck := cell_of H.out k hkN
      have hus := HL.out.full k (by rw [HL.out.len, ← HL.out.len, H.out.len]; exact hkN)
      obtain ⟨u, hu⟩ : ∃ u, sl'.getD k ⟨#[]⟩ = u := ⟨_, rfl⟩
      rw [hu] at ck hus
      have fk : wr.frozen? ⟨p.s, k, none⟩ = false := blk_frozen H.out.sure k
      have HU := Aside0.mk hu
      have lk := (H.out.map.kept (w' := wr.drew) rfl).look (k : Int) (wf_small k (Nat.lt_of_lt_of_le hkN H.out.small)) false
      rw [hfv] at lk
      have lk2 : (Instr.lookup 46 (.map (some p.m)) (.int .i64 (k : Int)) false).run Try.prog wr.drew = .ok (.string v) wr.drew := lk
      have HM := Aside0.mk hmem
      have HV := Aside0.mk hv
      have HUS := Aside0.mk hus
      clear hcj hrd hk hmem hfv lk e2 hu
      go_wp2
      go_region
      obtain ⟨t, ht⟩ : ∃ t, Go.bits .and .u64 (F / 2 ^ (2 * (j % 32))) 3 = t := ⟨_, rfl⟩
      have HT := Aside0.mk (show F = 0 → t = 0 from fun e => by rw [← ht, e, Int.zero_ediv]; decide)
      by_cases t1 : t = 1
      · have b1 : (t == 1) = true := beq_iff_eq.mpr t1
        have D2 := Aside0.mk (show Disk (wr.setCell ⟨p.s, k, none⟩ (.string v)).drew p N (sl'.set k v) n f (.slice (some ad) xs.length co) xs a A c false from (H.out.store k v).move (fun _ _ => rfl))
        have L2 := Aside0.mk (HL.out.set k HM.out v HV.out (fun e => by have := HT.out e; omega))
        have B2 := Aside0.mk (show Below p.B w (wr.setCell ⟨p.s, k, none⟩ (.string v)).drew from (HB.out.setCell (p := ⟨p.s, k, none⟩) H.out.bs _).drew)
        go_wp2
        exact ⟨⟨j + 1, _, hlt, rfl, D2, L2, B2⟩, measx hlt⟩
      · have b1 : (t == 1) = false := beq_eq_false_iff_ne.mpr t1
        by_cases t2 : t = 2
        · have b2 : (t == 2) = true := beq_iff_eq.mpr t2
          have sz : (v.extract 0 256 ++ u.extract 256 512).size = 512 := cut_size v u HV.out HUS.out
          have D2 := Aside0.mk (show Disk (wr.setCell ⟨p.s, k, none⟩ (.string (v.extract 0 256 ++ u.extract 256 512))).drew.drew p N (sl'.set k (v.extract 0 256 ++ u.extract 256 512)) n f (.slice (some ad) xs.length co) xs a A c false from (H.out.store k _).move (fun _ _ => rfl))
          have L2 := Aside0.mk (HL.out.set k HM.out _ sz (fun e => by have := HT.out e; omega))
          have B2 := Aside0.mk (show Below p.B w (wr.setCell ⟨p.s, k, none⟩ (.string (v.extract 0 256 ++ u.extract 256 512))).drew.drew from ((HB.out.setCell (p := ⟨p.s, k, none⟩) H.out.bs _).drew).drew)
          clear sz
          go_wp2
          go_region
          go_wp2
          exact ⟨⟨j + 1, _, hlt, rfl, D2, L2, B2⟩, measx hlt⟩
        · have b2 : (t == 2) = false := beq_eq_false_iff_ne.mpr t2
          by_cases t3 : t = 3
          · have b3 : (t == 3) = true := beq_iff_eq.mpr t3
            have sz : (u.extract 0 256 ++ v.extract 256 512).size = 512 := cut_size u v HUS.out HV.out
            have D2 := Aside0.mk (show Disk (wr.setCell ⟨p.s, k, none⟩ (.string (u.extract 0 256 ++ v.extract 256 512))).drew.drew p N (sl'.set k (u.extract 0 256 ++ v.extract 256 512)) n f (.slice (some ad) xs.length co) xs a A c false from (H.out.store k _).move (fun _ _ => rfl))
            have L2 := Aside0.mk (HL.out.set k HM.out _ sz (fun e => by have := HT.out e; omega))
            have B2 := Aside0.mk (show Below p.B w (wr.setCell ⟨p.s, k, none⟩ (.string (u.extract 0 256 ++ v.extract 256 512))).drew.drew from ((HB.out.setCell (p := ⟨p.s, k, none⟩) H.out.bs _).drew).drew)
            clear sz
            go_wp2
            go_region
            go_wp2
            exact ⟨⟨j + 1, _, hlt, rfl, D2, L2, B2⟩, measx hlt⟩
          · have b3 : (t == 3) = false := beq_eq_false_iff_ne.mpr t3
            have D2 := Aside0.mk (show Disk wr.drew p N sl' n f (.slice (some ad) xs.length co) xs a A c false from H.out.move (fun _ _ => rfl))
            have B2 := Aside0.mk (show Below p.B w wr.drew from HB.out.drew)
            go_wp2
            exact ⟨⟨j + 1, _, hlt, rfl, D2, HL, B2⟩, measx hlt⟩
    · have q0 : decide ((j : Int) < (xs.length : Int)) = false := decide_eq_false (by omega)
      have q0n : decide (j < xs.length) = false := decide_eq_false hlt
      go_wp2_with (first | (go_at_call 24; fail))
      refine (forget_calls H.out).mono ?_
      rintro e w1 ⟨rfl, hd, hb⟩
      have d5 : w1.cell? ⟨p.g, 5, none⟩ = some (.bool false) := blk_cell hd.cells 5
      have f5 : w1.frozen? ⟨p.g, 5, none⟩ = false := blk_frozen hd.cells 5
      have HD := Aside0.mk (hd.cell (a' := a) (dead' := true) (blk_set hd.cells 5 (.bool true)) (fun k _ hk => Below.heap_setCell _ _ _ _ hk))
      have HB1 := Aside0.mk ((HB.out.trans hb).setCell (p := ⟨p.g, 5, none⟩) hd.bg (.bool true))
      clear hd hb
      go_wp2
      (first | go_end0 | ((try simp only [Exit.inBlock, Exit.then]); refine bodyPost_ret (results_none rfl _ _ _) rfl ?_))
      exact ⟨rfl, ⟨_, sl', HD.out, HL.out⟩, HB1.out⟩
end Go.Proofs.Ytaomjdgdkdkibaa.Dk
