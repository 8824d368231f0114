/- The law DiskSure's own function, walked. -/
import Derived.Test.YtaomjdgdkdkibaaDkH
import Derived.Test.YtaomjdgdkdkibaaDkI
import Derived.Deep.RegionWith
namespace Go.Proofs.Ytaomjdgdkdkibaa.Dk
open Go.RowKit Go.Proofs.YtaomjdgdkdkibaaW.PrintWords Go.Proofs.YtaomjdgdkdkibaaW.PrintLast Go.Proofs.YtaomjdgdkdkibaaW.PrintMore Go.Proofs.Ytaomjdgdkdkibaa.XB Go.Proofs.Ytaomjdgdkdkibaa.PDiskNone
attribute [local go_sem] max2_int min2_int max_two min_two max_three min_three max_four min_four
set_option linter.unusedVariables false
set_option linter.unusedSimpArgs false
structure S33 where
  f0 : Int
  f1 : Int
  f2 : Int
  f3 : Int
def z33 : S33 := ⟨0, 0, 0, 0⟩
def k33 : Kd S33 := Kd.iso (Kd.pair (Kd.int .i64) (Kd.pair (Kd.int .i64) (Kd.pair (Kd.int .u8) (Kd.int .u64)))) (fun x : S33 => (x.f0, x.f1, x.f2, x.f3))
theorem k33_open {w : World} {x : S33} {cs : List Value} (h : k33.K w x cs) : cs = [.int .i64 x.f0, .int .i64 x.f1, .int .u8 x.f2, .int .u64 x.f3] := by
  obtain ⟨_, _, rfl, rfl, ⟨_, _, rfl, rfl, ⟨_, _, rfl, rfl, rfl⟩⟩⟩ := h
  exact rfl
theorem k33_mk (w : World) (x : S33) : k33.K w x [.int .i64 x.f0, .int .i64 x.f1, .int .u8 x.f2, .int .u64 x.f3] := ⟨[.int .i64 x.f0], [.int .i64 x.f1, .int .u8 x.f2, .int .u64 x.f3], rfl, rfl, ⟨[.int .i64 x.f1], [.int .u8 x.f2, .int .u64 x.f3], rfl, rfl, ⟨[.int .u8 x.f2], [.int .u64 x.f3], rfl, rfl, rfl⟩⟩⟩
def rd_T33 (xs : List S33) (i : Int) : S33 := xs.getD i.toNat z33
theorem at_T33 {w : World} {A : Option Addr} {n : Nat} {xs : List S33} (h : Kd.C k33 w A n xs) (i : Int) (h0 : 0 ≤ i) (h1 : i < n) : ∃ ad , A = some ad ∧ w.cell? ⟨(ad.add (i.toNat * 4)).block, (ad.add (i.toNat * 4)).off + 1, none⟩ = some (.int .i64 (rd_T33 xs i).f1) ∧ w.cell? ⟨(ad.add (i.toNat * 4)).block, (ad.add (i.toNat * 4)).off + 2, none⟩ = some (.int .u8 (rd_T33 xs i).f2) := by
  obtain ⟨ad, c, e, _, hK, hc0⟩ := Kd.C_get h z33 i h0 h1
  have hc : ∀ j u, c[j]? = some u → w.cell? (ad.add (i.toNat * 4 + j)) = some u := hc0
  obtain rfl := k33_open hK
  exact ⟨ad, e, by rw [← add_field _ _ 1 (by omega)]; exact hc 1 _ rfl, by rw [← add_field _ _ 2 (by omega)]; exact hc 2 _ rfl⟩
theorem and3 (x : Int) : ∃ (r : Int) (k : Nat), 4 ≤ k ∧ k < 8 ∧ Go.bits .and .i64 x 3 = r ∧ wrap64 (4 + r) = (k : Int) ∧ IntKind.i64.wrap (4 + r) = (k : Int) := by
  have h := and_mask64 x 2 (by decide) (by decide)
  have e1 : ((2 ^ 2 - 1 : Nat) : Int) = 3 := by decide
  have e2 : ((2 ^ 2 : Nat) : Int) = 4 := by decide
  rw [e1, e2] at h
  refine ⟨x % 4, (4 + x % 4).toNat, by omega, by omega, h, ?_, ?_⟩
  · rw [w64 (by omega) (by omega)]
    omega
  · rw [IntKind.wrap_i64]
    omega
/-- what the map holds: texts of blocks -/
def Good (f : Int → Option ByteArray) : Prop := ∀ x v, f x = some v → v.size = 512 ∧ ∃ k : Nat, x = (k : Int) ∧ k < 8
theorem Good.put {f : Int → Option ByteArray} (h : Good f) (k : Nat) (hk : k < 8) (v : ByteArray) (hv : v.size = 512) : Good (put f (k : Int) v) := by
  intro x u hx
  unfold Dk.put at hx
  by_cases e : x = (k : Int)
  · rw [if_pos e] at hx
    obtain rfl := Option.some.inj hx
    exact ⟨hv, k, e, hk⟩
  · rw [if_neg e] at hx
    exact h x u hx
/-- the first j numbers have their blocks -/
def Firsts (f : Int → Option ByteArray) (j : Nat) : Prop := ∀ i : Nat, i < j → f (i : Int) = some (bk ((i : Int) + 1))
theorem Firsts.next {f : Int → Option ByteArray} {j : Nat} (h : Firsts f j) : Firsts (put f (j : Int) (bk ((j : Int) + 1))) (j + 1) := by
  intro i hi
  unfold Dk.put
  by_cases e : (i : Int) = (j : Int)
  · rw [if_pos e, e]
  · rw [if_neg e]
    exact h i (by omega)
/-- the row of what was written since: all above -/
def Above (f : Int → Option ByteArray) (xs : List Int) : Prop := ∀ x ∈ xs, ∃ k : Nat, x = (k : Int) ∧ 4 ≤ k ∧ k < 8 ∧ ∃ v, f x = some v ∧ v.size = 512
theorem Above.next {f : Int → Option ByteArray} {xs : List Int} (h : Above f xs) (k : Nat) (h4 : 4 ≤ k) (h8 : k < 8) (v : ByteArray) (hv : v.size = 512) : Above (put f (k : Int) v) (nrow f (k : Int) xs) := by
  intro x hx
  have old : x ∈ xs → ∃ k' : Nat, x = (k' : Int) ∧ 4 ≤ k' ∧ k' < 8 ∧ ∃ u, put f (k : Int) v x = some u ∧ u.size = 512 := by
    intro hm
    obtain ⟨k', e, a, b, u, hu, hs⟩ := h x hm
    refine ⟨k', e, a, b, ?_⟩
    unfold Dk.put
    by_cases e2 : x = (k : Int)
    · rw [if_pos e2]; exact ⟨v, rfl, hv⟩
    · rw [if_neg e2]; exact ⟨u, hu, hs⟩
  unfold nrow at hx
  by_cases c : (f (k : Int)).isSome = true
  · rw [if_pos c] at hx; exact old hx
  · rw [if_neg c] at hx
    rcases List.mem_append.mp hx with hx | hx
    · exact old hx
    · obtain rfl := List.mem_singleton.mp hx
      refine ⟨k, rfl, h4, h8, v, ?_, hv⟩
      unfold Dk.put
      rw [if_pos rfl]
theorem nrow_len (f : Int → Option ByteArray) (k : Int) (xs : List Int) (j : Nat) (h : xs.length ≤ j) : (nrow f k xs).length ≤ j + 1 := by
  unfold nrow
  split
  · omega
  · rw [List.length_append, List.length_singleton]; omega
theorem wrap_j {j : Nat} (hj : j ≤ 40) : wrap64 ((j : Int) + 1) = (j : Int) + 1 := w64 (by omega) (by omega)
theorem wrap_8 {j : Nat} (hj : j < 4) : IntKind.u8.wrap ((j : Int) + 1) = (j : Int) + 1 := by rw [wu8]; omega
theorem meas4 {n j : Nat} (h : j < n) : n - ((j : Int) + 1).toNat < n - ((j : Int)).toNat := by omega
theorem above_ok {f : Int → Option ByteArray} {xs : List Int} (h : Above f xs) : ∀ x ∈ xs, ∃ k : Nat, x = (k : Int) ∧ k < 8 ∧ ∃ v, f x = some v ∧ v.size = 512 := fun x hx => by
  obtain ⟨k, e, _, h8, v, hv, hs⟩ := h x hx
  exact ⟨k, e, h8, v, hv, hs⟩
theorem above_not {f : Int → Option ByteArray} {xs : List Int} (h : Above f xs) (i : Nat) (hi : i < 4) : (i : Int) ∉ xs := fun hm => by
  obtain ⟨k, e, h4, _⟩ := h _ hm
  omega
theorem big5 {j : Nat} {a : Int} (h : a ≤ (j : Int) + 5) (hj : j ≤ 40) : a < 4611686018427387904 := by omega
theorem up5 {j : Nat} {a : Int} (h0 : 0 ≤ a) (h : a ≤ (j : Int) + 5) : 0 ≤ a + 1 ∧ a + 1 ≤ ((j + 1 : Nat) : Int) + 5 := by omega
theorem big_j {j : Nat} {a : Int} (h : a ≤ (j : Int)) (hj : j ≤ 100) : a < 4611686018427387904 := by omega
theorem up_j {j : Nat} {a : Int} (h0 : 0 ≤ a) (h : a ≤ (j : Int)) : 0 ≤ a + 1 ∧ a + 1 ≤ ((j + 1 : Nat) : Int) := by omega
set_option maxHeartbeats 2000000 in
set_option maxRecDepth 100000 in
theorem sure_law (C : Option Addr) (q c3 : Nat) (ls : List S33) (F : Int) (w : World) (hC : Kd.C k33 w C q ls) (hF : 0 ≤ F) :
    Calls Try.prog 3 #[.slice C q c3, .int .u64 F] w fun e w' => e = .returned (.bool true) ∧ Below w.heap.size w w' := by
  have hq1 := hC.2.1
  have HRC := Aside0.mk hC
  clear hC
  go_enter Try.func3, Try.ntmps3
  go_wp2_with (first | (go_at_call 5; fail))
  refine (new_disk 8 (by decide) (by decide) w).mono ?_
  rintro e w1 ⟨p, A, c, rfl, hd, hB, hb⟩
  have HD := Aside0.mk hd
  have HB := Aside0.mk hb
  have HP := Aside0.mk hB
  clear hd hb hB
  go_wp2_with (first | (go_at_call 6; fail))
  refine (awake_calls w1).mono ?_
  rintro e w2 ⟨rfl, hb⟩
  have HD2 := Aside0.mk (HD.out.below hb)
  have HB2 := Aside0.mk (below_step HB.out hb)
  clear hb HD HB
  go_wp2
  go_loopw [7] (fun i w' => ∃ (j : Nat) (f : Int → Option ByteArray) (rv : Value) (xs : List Int) (a : Int), j ≤ 4 ∧ i = .int .i64 (j : Int) ∧ xs.length ≤ j ∧ (0 ≤ a ∧ a ≤ (j : Int)) ∧ Aside0 (Good f) ∧ Aside0 (Firsts f j) ∧ Aside0 (Disk w' p 8 (List.replicate 8 z0) j f rv xs a A c false) ∧ Aside0 (Below w.heap.size w w')) (fun i _ => 4 - (intOf i).toNat)
  case atStart => exact ⟨0, fun _ => none, _, [], 0, by decide, rfl, Nat.le_refl _, ⟨by decide, by decide⟩, ⟨fun x v hx => by cases hx⟩, ⟨fun i hi => absurd hi (Nat.not_lt_zero i)⟩, HD2, HB2⟩
  case round =>
    clear HD2 HB2
    obtain ⟨j, f, rv, xs, a, hj, rfl, hxl, ⟨ha0, ha1⟩, HG, HFs, HD, HB⟩ := hrel
    by_cases hlt : j < 4
    · have q0 : decide ((j : Int) < 4) = true := decide_eq_true (by omega)
      have q0n : decide (j < 4) = true := decide_eq_true hlt
      have wj := wrap_j (Nat.le_trans hj (by decide))
      have w8 := wrap_8 hlt
      go_wp2_with (first | (go_at_call 8; fail))
      refine (block_calls ((j : Int) + 1) _).mono ?_
      rintro e w3 ⟨rfl, hb⟩
      have HD3 := Aside0.mk (HD.out.below hb)
      have HB3 := Aside0.mk (below_step HB.out hb)
      clear hb HD HB
      go_wp2_with (first | (go_at_call 7; fail))
      refine (write_calls HD3.out j (Nat.lt_trans hlt (by decide)) (bk ((j : Int) + 1)) (bk_size _) ha0 (big_j ha1 (Nat.le_trans hj (by decide))) (Nat.lt_of_le_of_lt hj (by decide)) (Nat.lt_of_le_of_lt (Nat.le_trans hxl hj) (by decide))).mono ?_
      rintro e w4 ⟨rfl, ⟨rv', hd⟩, hb⟩
      rw [HP.out] at hb
      have HD4 := Aside0.mk hd
      have HB4 := Aside0.mk (HB3.out.trans hb)
      have HG4 := Aside0.mk (HG.out.put j (Nat.lt_trans hlt (by decide)) (bk ((j : Int) + 1)) (bk_size _))
      have HF4 := Aside0.mk (HFs.out.next)
      clear hd hb HD3 HB3 w8
      clear wj
      go_wp2
      exact ⟨⟨j + 1, _, rv', _, a + 1, hlt, rfl, nrow_len _ _ _ _ hxl, up_j ha0 ha1, HG4, HF4, HD4, HB4⟩, meas4 hlt⟩
    · have q0 : decide ((j : Int) < 4) = false := decide_eq_false (by omega)
      have q0n : decide (j < 4) = false := decide_eq_false hlt
      obtain rfl : j = 4 := by omega
      go_wp2_with (first | (go_at_call 9; fail))
      refine (flush_calls HD.out (fun x v hx => (HG.out x v hx).2) ha0 (big_j ha1 (by decide))).mono ?_
      rintro e w3 ⟨rfl, ⟨m', sl', hd, hl⟩, hb⟩
      rw [HP.out] at hb
      have HD3 := Aside0.mk hd
      have HB3 := Aside0.mk (HB.out.trans hb)
      have SU := Aside0.mk (show ∀ i : Nat, i < 4 → sl'.getD i ⟨#[]⟩ = bk ((i : Int) + 1) from fun i hi => by
        rw [hl i (Nat.lt_trans hi (by decide)), HFs.out i hi]; rfl)
      have FU := Aside0.mk (show Full sl' from fun i hi => by
        have hi8 : i < 8 := by have := hd.len; omega
        rw [hl i (by rw [List.length_replicate]; exact hi8)]
        show ((f (i : Int)).getD _).size = 512
        cases hfi : f (i : Int) with
        | none =>
          show ((List.replicate 8 z0).getD i ⟨#[]⟩).size = 512
          exact full_rep 8 i (by rw [List.length_replicate]; exact hi8)
        | some v => exact (HG.out _ v hfi).1)
      clear hd hl hb HD HB HFs HG
      go_wp2
      obtain ⟨a2, ha2⟩ : ∃ a2, a2 = a + 1 := ⟨_, rfl⟩
      have hb2 : 0 ≤ a2 ∧ a2 ≤ ((0 : Nat) : Int) + 5 := by omega
      rw [← ha2] at HD3
      clear ha2
      obtain ⟨P, hP⟩ : ∃ P : At, P = { p with m := m' } := ⟨_, rfl⟩
      have eg : P.g = p.g := by rw [hP]
      have HPB := Aside0.mk (show P.B = w.heap.size from by rw [hP]; exact HP.out)
      rw [← hP] at HD3
      rw [← eg]
      clear hP eg
      go_loopw [9] (fun i w' => ∃ (j : Nat) (f : Int → Option ByteArray) (rv : Value) (xs : List Int) (a : Int), j ≤ 40 ∧ i = .int .i64 (j : Int) ∧ xs.length ≤ j ∧ (0 ≤ a ∧ a ≤ (j : Int) + 5) ∧ Aside0 (Above f xs) ∧ Aside0 (Disk w' P 8 sl' j f rv xs a A c false) ∧ Aside0 (Below w.heap.size w w')) (fun i _ => 40 - (intOf i).toNat)
      case atStart => exact ⟨0, _, _, [], a2, by decide, rfl, Nat.le_refl _, hb2, ⟨fun x hx => absurd hx List.not_mem_nil⟩, HD3, HB3⟩
      case round =>
        clear HD3 HB3 hb2 ha0 ha1 q0 q0n
        obtain ⟨j, f, rv, xs, a, hj, rfl, hxl, ⟨ha0, ha1⟩, HA, HD, HB⟩ := hrel
        by_cases hlt : j < q ∧ j < 40
        · obtain ⟨hl1, hl2⟩ := hlt
          have q0 : decide ((j : Int) < (q : Int)) = true := decide_eq_true (by omega)
          have q1 : decide ((j : Int) < 40) = true := decide_eq_true (by omega)
          have q0n : decide (j < q) = true := decide_eq_true hl1
          have q1n : decide (j < 40) = true := decide_eq_true hl2
          have j0 : (0 : Int) ≤ (j : Int) := by omega
          have j1 : (j : Int) < (q : Int) := by omega
          obtain ⟨ad, rfl, y1, y2⟩ := at_T33 HRC.out (j : Int) j0 j1
          rw [Int.toNat_natCast] at y1 y2
          obtain ⟨N1, hN1⟩ : ∃ N1, (rd_T33 ls (j : Int)).f1 = N1 := ⟨_, rfl⟩
          obtain ⟨C1, hC1⟩ : ∃ C1, (rd_T33 ls (j : Int)).f2 = C1 := ⟨_, rfl⟩
          rw [hN1] at y1
          rw [hC1] at y2
          obtain ⟨r, k, hk4, hk8, hb3, hw3, hw4⟩ := and3 N1
          have z1 := pw_cell_below HB.out y1
          have z2 := pw_cell_below HB.out y2
          have Y1 := Aside0.mk y1
          have Y2 := Aside0.mk y2
          clear y1 y2 hN1 hC1
          go_wp2
          go_region_with (first
            | (go_at_call 8; (with_reducible refine (block_calls C1 _).mono ?_); rintro e w5 ⟨rfl, hb⟩; have HD5 := Aside0.mk ((HD.out.move (w' := wr.drew) (fun _ _ => rfl)).below hb); have HB5 := Aside0.mk (below_step (below_drew1 HB.out) hb); have z3 := pw_cell_below HB5.out Y1.out; clear hb)
            | (go_at_call 7; (with_reducible refine (write_calls HD5.out k hk8 (bk C1) (bk_size C1) ha0 ?k9 ?k10 ?k11).mono ?_); (case k9 => exact big5 ha1 hj); (case k10 => exact Nat.lt_of_le_of_lt hj (by decide)); (case k11 => exact Nat.lt_of_le_of_lt (Nat.le_trans hxl hj) (by decide)); rintro e w6 ⟨rfl, ⟨rv', hd⟩, hb⟩; rw [HPB.out] at hb; have HD6 := Aside0.mk hd; have HB6 := Aside0.mk (HB5.out.trans hb); clear hd hb))
          all_goals
            have HA6 := Aside0.mk (HA.out.next k hk4 hk8 (bk C1) (bk_size C1))
            clear hw3 hw4
            go_wp2
            exact ⟨⟨j + 1, _, rv', _, a + 1, hl2, rfl, nrow_len _ _ _ _ hxl, up5 ha0 ha1, HA6, HD6, HB6⟩, meas4 hl2⟩
        · by_cases hl1 : j < q
          · have q0 : decide ((j : Int) < (q : Int)) = true := decide_eq_true (by omega)
            have q1 : decide ((j : Int) < 40) = false := decide_eq_false (by omega)
            have q0n : decide (j < q) = true := decide_eq_true hl1
            have q1n : decide (j < 40) = false := decide_eq_false (by omega)
            go_wp2_with (first | (go_at_call 10; fail))
            refine (fail_calls HD.out (above_ok HA.out) FU.out (Nat.lt_of_le_of_lt (Nat.le_trans hxl hj) (by decide)) F hF).mono ?_
            rintro e w7 ⟨rfl, ⟨m2, sl2, hd, hl⟩, hb⟩
            rw [HPB.out] at hb
            have S2 := Aside0.mk (show ∀ i : Nat, i < 4 → sl2.getD i ⟨#[]⟩ = bk ((i : Int) + 1) from fun i hi => by
              rw [hl.same i (above_not HA.out i hi)]
              exact SU.out i hi)
            have HD7 := Aside0.mk hd
            have HB7 := Aside0.mk (HB.out.trans hb)
            clear hd hl hb HD HB HA
            go_wp2_with (first | (go_at_call 11; fail))
            refine (up_calls HD7.out).mono ?_
            rintro e w8 ⟨rfl, hd, hb⟩
            have HD8 := Aside0.mk hd
            have HB8 := Aside0.mk (HB7.out.trans (show Below w.heap.size w7 w8 from HPB.out ▸ hb))
            clear hd hb HD7 HB7
            go_wp2
            go_loopw [10] (fun i w' => ∃ (j : Nat), j ≤ 4 ∧ i = .int .i64 (j : Int) ∧ Aside0 (Disk w' { P with m := m2 } 8 sl2 0 (fun _ => none) (.slice none 0 0) [] a A c false) ∧ Aside0 (Below w.heap.size w w')) (fun i _ => 4 - (intOf i).toNat)
            case atStart => exact ⟨0, by decide, rfl, HD8, HB8⟩
            case round =>
              clear HD8 HB8 ha0 ha1 hxl
              obtain ⟨i, hi, rfl, HD, HB⟩ := hrel
              by_cases hlt2 : i < 4
              · have q4 : decide ((i : Int) < 4) = true := decide_eq_true (by omega)
                have q4n : decide (i < 4) = true := decide_eq_true hlt2
                have w8 := wrap_8 hlt2
                have wj := wrap_j (Nat.le_trans hi (by decide))
                go_wp2_with (first | (go_at_call 12; fail))
                refine (read_calls HD.out i (Nat.lt_trans hlt2 (by decide))).mono ?_
                rintro e w9 ⟨rfl, e7⟩
                subst e7
                rw [show ((fun _ => none : Int → Option ByteArray) (i : Int)).getD (sl2.getD i ⟨#[]⟩) = bk ((i : Int) + 1) from S2.out i hlt2]
                go_wp2_with (first | (go_at_call 8; fail))
                refine (block_calls ((i : Int) + 1) _).mono ?_
                rintro e w10 ⟨rfl, hb⟩
                have HD10 := Aside0.mk (HD.out.below hb)
                have HB10 := Aside0.mk (below_step HB.out hb)
                clear hb HD HB wj w8
                go_wp2
                exact ⟨⟨i + 1, hlt2, rfl, HD10, HB10⟩, meas4 hlt2⟩
              · have q4 : decide ((i : Int) < 4) = false := decide_eq_false (by omega)
                have q4n : decide (i < 4) = false := decide_eq_false hlt2
                go_wp2
                go_ret
                exact ⟨by first | rfl | simp, HB.out⟩
          · have q0 : decide ((j : Int) < (q : Int)) = false := decide_eq_false (by omega)
            have q0n : decide (j < q) = false := decide_eq_false hl1
            go_wp2_with (first | (go_at_call 10; fail))
            refine (fail_calls HD.out (above_ok HA.out) FU.out (Nat.lt_of_le_of_lt (Nat.le_trans hxl hj) (by decide)) F hF).mono ?_
            rintro e w7 ⟨rfl, ⟨m2, sl2, hd, hl⟩, hb⟩
            rw [HPB.out] at hb
            have S2 := Aside0.mk (show ∀ i : Nat, i < 4 → sl2.getD i ⟨#[]⟩ = bk ((i : Int) + 1) from fun i hi => by
              rw [hl.same i (above_not HA.out i hi)]
              exact SU.out i hi)
            have HD7 := Aside0.mk hd
            have HB7 := Aside0.mk (HB.out.trans hb)
            clear hd hl hb HD HB HA
            go_wp2_with (first | (go_at_call 11; fail))
            refine (up_calls HD7.out).mono ?_
            rintro e w8 ⟨rfl, hd, hb⟩
            have HD8 := Aside0.mk hd
            have HB8 := Aside0.mk (HB7.out.trans (show Below w.heap.size w7 w8 from HPB.out ▸ hb))
            clear hd hb HD7 HB7
            go_wp2
            go_loopw [10] (fun i w' => ∃ (j : Nat), j ≤ 4 ∧ i = .int .i64 (j : Int) ∧ Aside0 (Disk w' { P with m := m2 } 8 sl2 0 (fun _ => none) (.slice none 0 0) [] a A c false) ∧ Aside0 (Below w.heap.size w w')) (fun i _ => 4 - (intOf i).toNat)
            case atStart => exact ⟨0, by decide, rfl, HD8, HB8⟩
            case round =>
              clear HD8 HB8 ha0 ha1 hxl
              obtain ⟨i, hi, rfl, HD, HB⟩ := hrel
              by_cases hlt2 : i < 4
              · have q4 : decide ((i : Int) < 4) = true := decide_eq_true (by omega)
                have q4n : decide (i < 4) = true := decide_eq_true hlt2
                have w8 := wrap_8 hlt2
                have wj := wrap_j (Nat.le_trans hi (by decide))
                go_wp2_with (first | (go_at_call 12; fail))
                refine (read_calls HD.out i (Nat.lt_trans hlt2 (by decide))).mono ?_
                rintro e w9 ⟨rfl, e7⟩
                subst e7
                rw [show ((fun _ => none : Int → Option ByteArray) (i : Int)).getD (sl2.getD i ⟨#[]⟩) = bk ((i : Int) + 1) from S2.out i hlt2]
                go_wp2_with (first | (go_at_call 8; fail))
                refine (block_calls ((i : Int) + 1) _).mono ?_
                rintro e w10 ⟨rfl, hb⟩
                have HD10 := Aside0.mk (HD.out.below hb)
                have HB10 := Aside0.mk (below_step HB.out hb)
                clear hb HD HB wj w8
                go_wp2
                exact ⟨⟨i + 1, hlt2, rfl, HD10, HB10⟩, meas4 hlt2⟩
              · have q4 : decide ((i : Int) < 4) = false := decide_eq_false (by omega)
                have q4n : decide (i < 4) = false := decide_eq_false hlt2
                go_wp2
                go_ret
                exact ⟨by first | rfl | simp, HB.out⟩
end Go.Proofs.Ytaomjdgdkdkibaa.Dk
