/- So many things one holds, and no more: the law, walked. -/
import Derived.Test.YtonbonailghjjaaLkI
namespace Go.Proofs.Ytonbonailghjjaa.Lk
open Go.RowKit Go.Proofs.YtonbonailghjjaaW.PrintWords Go.Proofs.YtonbonailghjjaaW.PrintLast Go.Proofs.YtonbonailghjjaaW.PrintMore Go.Proofs.Ytonbonailghjjaa.XB Go.Proofs.Ytonbonailghjjaa.PLockMost
attribute [local go_sem] max2_int min2_int max_two min_two max_three min_three max_four min_four
set_option linter.unusedVariables false
set_option linter.unusedSimpArgs false
variable {w w' : World} {p : At} {rv : Value} {l : List S51}
theorem fa3 (i : Nat) : Go.bits .and .i64 ((i : Int) / 16) 15 = (i : Int) / 16 % 16 := by
  have h := and15 (i / 16)
  have e1 : ((i / 16 : Nat) : Int) = (i : Int) / 16 := by omega
  have e2 : ((i / 16 % 16 : Nat) : Int) = (i : Int) / 16 % 16 := by omega
  rw [e1, e2] at h; exact h
theorem fa4 (i : Nat) : wrap64 (97 + (i : Int) / 16 % 16) = 97 + (i : Int) / 16 % 16 := w64 (by omega) (by omega)
theorem fa5 (i : Nat) : (97 + (i : Int) / 16 % 16) % 256 = 97 + (i : Int) / 16 % 16 := by omega
theorem fa2 (i : Nat) : wrap64 (97 + ((i % 16 : Nat) : Int)) = ((97 + i % 16 : Nat) : Int) := by rw [w64 (by omega) (by omega)]; omega
theorem fa6 (i : Nat) (h : i < 516) : wrap64 ((i : Int) + 1) = (i : Int) + 1 := w64 (by omega) (by omega)
theorem fall (i : Nat) (h : i < 516) : ∃ r0 s1 r1 s2 b0 b1 : Int, Go.bits .and .i64 (i : Int) 15 = r0 ∧ wrap64 (97 + r0) = b0 ∧ b0 % 256 = b0 ∧ (i : Int) / 16 = s1 ∧ Go.bits .and .i64 s1 15 = r1 ∧ wrap64 (97 + r1) = b1 ∧ b1 % 256 = b1 ∧ (i : Int) / 256 = s2 ∧ wrap64 (97 + s2) = 97 + s2 ∧ (97 + s2) % 256 = 97 + s2 ∧ strOfNums [b0, b1, 97 + s2] = nm i := by
  refine ⟨(i : Int) % 16, (i : Int) / 16, (i : Int) / 16 % 16, (i : Int) / 256, 97 + (i : Int) % 16, 97 + (i : Int) / 16 % 16, ?_, ?_, ?_, rfl, fa3 i, fa4 i, fa5 i, rfl, ?_, ?_, rfl⟩
  · rw [and15]; omega
  · exact w64 (by omega) (by omega)
  · omega
  · exact w64 (by omega) (by omega)
  · omega
theorem ne_aaa : (⟨#[97, 97, 97]⟩ : ByteArray).toList ≠ [] := by rw [toList_data]; decide
set_option maxHeartbeats 2000000 in
set_option maxRecDepth 100000 in
theorem most_law (more : Int) (s : ByteArray) (w : World) : Calls Try.prog 4 #[.int .i64 more, .string s] w fun e w' => e = .returned (.bool true) ∧ Below w.heap.size w w' := by
  obtain ⟨r, n, n0, n1, er, en, en2⟩ := and3 more
  go_enter Try.func4, Try.ntmps4
  go_wp2_with (first | (go_at_call 5; fail))
  refine (new_calls w).mono ?_
  rintro e w1 ⟨rfl, ht, hb⟩
  have HT := Aside0.mk ht
  have HB := Aside0.mk hb
  clear ht hb
  go_wp2
  go_loopw [7] (fun v7 w' => ∃ (i : Nat) (rv : Value), i ≤ n ∧ v7 = .int .i64 (i : Int) ∧ Aside0 (Tab w' ⟨w.heap.size, w.heap.size⟩ rv (tabl i)) ∧ Aside0 (Below w.heap.size w w')) (fun v7 _ => n - (intOf v7).toNat)
  case atStart => exact ⟨0, _, Nat.zero_le _, rfl, HT, HB⟩
  case round =>
    clear HT HB
    obtain ⟨i, rv, hi, rfl, HT, HB⟩ := hrel
    by_cases hlt : i < n
    · have q0 : decide ((i : Int) < (n : Int)) = true := decide_eq_true (by omega)
      have q0n : decide (i < n) = true := decide_eq_true hlt
      obtain ⟨r0, s1, r1, s2, b0, b1, f1, f2, f3, f4, f5, f6, f7, f8, f9, f10, f11⟩ := fall i (Nat.lt_trans hlt n1)
      have F11 := Aside0.mk f11
      have cv := three_str (heap_alloc_new wr (.cells #[.int .u8 b0, .int .u8 b1, .int .u8 (97 + s2)] 5))
      obtain ⟨sn, hsn⟩ : ∃ sn, strOfNums [b0, b1, 97 + s2] = sn := ⟨_, rfl⟩
      rw [hsn] at cv f11
      have HSN := Aside0.mk f11
      clear hsn f11 F11
      have H1 := Aside0.mk (HT.out.below (below_alloc (Below.refl wr.heap.size wr) (.cells #[.int .u8 b0, .int .u8 b1, .int .u8 (97 + s2)] 5)))
      have HB1 := Aside0.mk (below_alloc HB.out (.cells #[.int .u8 b0, .int .u8 b1, .int .u8 (97 + s2)] 5))
      clear HT HB
      go_wp2_with (first | (go_at_call 8; fail))
      clear cv f1 f2 f3 f4 f5 f6 f7 f8 f9 f10
      have hnot := HSN.out
      subst hnot
      by_cases hf : i < 512
      · have g0 : decide ((i : Int) < 512) = true := decide_eq_true (by omega)
        have g1 : decide (i < 512) = true := decide_eq_true hf
        refine (take_new H1.out 2 (by decide) (by decide) (nm i) (nm_some i) false (tabl_how i) (tabl_idx i (Nat.lt_trans hlt n1)) (by rw [held_two _ (tabl_two i), tabl_len]; omega) (by rw [tabl_len]; omega)).mono ?_
        rintro e w2 ⟨rfl, ⟨rv2, ht⟩, hb⟩
        have HT2 := Aside0.mk (show Tab w2 ⟨w.heap.size, w.heap.size⟩ rv2 (tabl (i + 1)) by rw [tabl_succ i hf]; exact ht)
        have HB2 := Aside0.mk (HB1.out.trans hb)
        clear ht hb H1 HB1 HSN
        go_wp2
        exact ⟨⟨i + 1, rv2, hlt, rfl, HT2, HB2⟩, measn hlt⟩
      · have g0 : decide ((i : Int) < 512) = false := decide_eq_false (by omega)
        have g1 : decide (i < 512) = false := decide_eq_false hf
        refine (take_full H1.out 2 (by decide) (by decide) (nm i) (nm_some i) false (tabl_how i) (tabl_idx i (Nat.lt_trans hlt n1)) (by rw [held_two _ (tabl_two i), tabl_len]; omega)).mono ?_
        rintro e w2 ⟨rfl, hb⟩
        have HT2 := Aside0.mk (show Tab w2 ⟨w.heap.size, w.heap.size⟩ rv (tabl (i + 1)) by rw [tabl_full i (by omega)]; exact H1.out.below hb)
        have HB2 := Aside0.mk (below_step HB1.out hb)
        clear hb H1 HB1 HSN
        go_wp2
        exact ⟨⟨i + 1, rv, hlt, rfl, HT2, HB2⟩, measn hlt⟩
    · have q0 : decide ((i : Int) < (n : Int)) = false := decide_eq_false (by omega)
      have q0n : decide (i < n) = false := decide_eq_false hlt
      obtain rfl : i = n := by omega
      have hlen := tabl_len i
      have hone : (rd_T51 (tabl i) ((0 : Nat) : Int)).f1 = [2] := by rw [tabl_rd i 0 (by omega)]
      clear q0n en en2 er
      go_wp2_with (first | (go_at_call 8; fail))
      refine (take_again HT.out 2 (by decide) (by decide) ⟨#[97, 97, 97]⟩ ne_aaa true (tabl_how i) 0 (by rw [hlen]; omega) (tabl_aaa i (by omega)) hone).mono ?_
      rintro e w2 ⟨rfl, ⟨rv2, x', ht, _, hx1, _⟩, hb⟩
      obtain ⟨l2, hl2⟩ : ∃ l2, (tabl i).set 0 x' = l2 := ⟨_, rfl⟩
      rw [hl2] at ht
      have htwo : ∀ x ∈ l2, x.f1 = [2] := by
        intro x hx
        rw [← hl2] at hx
        rcases List.mem_or_eq_of_mem_set hx with hx | rfl
        · exact tabl_two i x hx
        · exact hx1
      have hlen2 : l2.length = 512 := by rw [← hl2, List.length_set, hlen]; omega
      have HT2 := Aside0.mk ht
      have HB2 := Aside0.mk (HB.out.trans hb)
      have HTWO := Aside0.mk htwo
      have HLEN2 := Aside0.mk hlen2
      clear ht hb htwo hlen2 hl2 HT HB hone hlen q0
      go_wp2_with (first | (go_at_call 8; fail))
      refine (take_empty w.heap.size 1 (by decide) (by decide) false w2).mono ?_
      rintro e w3 ⟨rfl, hb⟩
      have HT3 := Aside0.mk (HT2.out.below hb)
      have HB3 := Aside0.mk (below_step HB2.out hb)
      clear hb HT2 HB2
      go_wp2_with (first | (go_at_call 8; fail))
      refine (take_nil 0 s false w3).mono ?_
      rintro e w4 ⟨rfl, hb⟩
      have HT4 := Aside0.mk (HT3.out.below hb)
      have HB4 := Aside0.mk (below_step HB3.out hb)
      clear hb HT3 HB3
      go_wp2_with (first | (go_at_call 10; fail))
      refine (who_nil s w4).mono ?_
      rintro e w5 ⟨rfl, hb⟩
      have HT5 := Aside0.mk (HT4.out.below hb)
      have HB5 := Aside0.mk (below_step HB4.out hb)
      clear hb HT4 HB4
      go_wp2_with (first | (go_at_call 6; fail))
      refine (awake_calls w5).mono ?_
      rintro e w6 ⟨rfl, hb⟩
      have HT6 := Aside0.mk (HT5.out.below hb)
      have HB6 := Aside0.mk (below_step HB5.out hb)
      clear hb HT5 HB5
      go_wp2_with (first | (go_at_call 7; fail))
      refine (free_calls HT6.out 2 (by rw [held_two _ HTWO.out, HLEN2.out]; decide)).mono ?_
      rw [held_two _ HTWO.out, HLEN2.out, freed_two _ HTWO.out]
      rintro e w7 ⟨rfl, ⟨rv7, ht⟩, hb⟩
      have HT7 := Aside0.mk ht
      have HB7 := Aside0.mk (HB6.out.trans hb)
      clear ht hb HT6 HB6
      go_wp2_with (first | (go_at_call 11; fail))
      refine (len_calls HT7.out).mono ?_
      rintro e w8 ⟨rfl, hb⟩
      have HB8 := Aside0.mk (below_step HB7.out hb)
      clear hb HT7 HB7
      go_wp2_with (first | (go_at_call 7; fail))
      refine (free_nil 0).mono ?_
      rintro e w9 ⟨rfl, hb⟩
      have HB9 := Aside0.mk (below_step HB8.out hb)
      clear hb HB8
      go_wp2_with (first | (go_at_call 12; fail))
      refine (held_nil 0 w9).mono ?_
      rintro e w10 ⟨rfl, hb⟩
      have HB10 := Aside0.mk (below_step HB9.out hb)
      clear hb HB9
      go_wp2_with (first | (go_at_call 11; fail))
      refine (len_nil w10).mono ?_
      rintro e w11 ⟨rfl, hb⟩
      have HB11 := Aside0.mk (below_step HB10.out hb)
      clear hb HB10
      go_wp2
      go_ret
      exact ⟨rfl, HB11.out⟩
end Go.Proofs.Ytonbonailghjjaa.Lk
