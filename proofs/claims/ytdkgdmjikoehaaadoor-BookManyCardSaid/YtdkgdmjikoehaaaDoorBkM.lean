/- The law BookMany: so many texts are noted, and no more, unless two of them have one sum. -/
import Derived.Test.YtdkgdmjikoehaaaDoorBkC
import Derived.Test.YtdkgdmjikoehaaaDoorXI
namespace Go.Proofs.YtdkgdmjikoehaaaDoor.Bk
open Go.RowKit Go.Proofs.YtdkgdmjikoehaaaDoorW.PrintWords Go.Proofs.YtdkgdmjikoehaaaDoorW.PrintLast Go.Proofs.YtdkgdmjikoehaaaDoorW.PrintMore Go.Proofs.YtdkgdmjikoehaaaDoor.XB Go.Proofs.YtdkgdmjikoehaaaDoor.PBookReal Go.Proofs.YtdkgdmjikoehaaaDoor.Sha
attribute [local go_sem] max2_int min2_int max_two min_two max_three min_three max_four min_four   -- for this text's walks alone
set_option linter.unusedVariables false
set_option linter.unusedSimpArgs false
/-! ### plain laws -/
/-- the bytes of a number, the lowest first -/
def nb (k : Int) : List Int := [k % 256, k / 256 % 256, k / 65536 % 256, k / 16777216 % 256]
def txt (f : Int) (j : Nat) : ByteArray := strOfNums (nb ((f + (j : Int)) % 4294967296))
theorem nb_range (k : Int) : ∀ x ∈ nb k, 0 ≤ x ∧ x ≤ 255 := by
  intro x hx
  simp only [nb, List.mem_cons, List.not_mem_nil, or_false] at hx
  rcases hx with rfl | rfl | rfl | rfl <;> omega
theorem nb_inj {k l : Int} (hk : 0 ≤ k ∧ k < 4294967296) (hl : 0 ≤ l ∧ l < 4294967296) (h : strOfNums (nb k) = strOfNums (nb l)) : k = l := by
  have e := congrArg bytesOf h
  rw [bytesOf_strOfNums (nb_range k), bytesOf_strOfNums (nb_range l)] at e
  simp only [nb, List.cons.injEq, and_true] at e
  obtain ⟨e1, e2, e3, e4⟩ := e
  omega
theorem txt_inj (f : Int) {i j : Nat} (hi : i < 9000) (hj : j < 9000) (h : txt f i = txt f j) : i = j := by
  have e := nb_inj (by omega) (by omega) h
  omega
theorem txt_size (f : Int) (j : Nat) : (txt f j).size = 4 := by rw [txt, strOfNums_size]; rfl
/-- the book behind so many texts -/
def bk (f : Int) : Nat → St
  | 0 => S0
  | j + 1 => (bk f j).next (dig (txt f j)) (txt f j)
theorem next_two {s : St} {d t f : ByteArray} (h1 : s.tw = false) (hl : look s.L d = some f) (c : ¬ f.toList = t.toList) : s.next d t = { s with a := f, b := t, tw := true } := by
  obtain ⟨L, a, b, tw, fl⟩ := s
  simp only at h1 hl
  subst h1
  simp only [St.next, hl]
  exact if_neg c
theorem next_full {s : St} {d t : ByteArray} (h1 : s.tw = false) (hl : look s.L d = none) (c : 8192 ≤ s.L.length) : s.next d t = { s with fl := true } := by
  obtain ⟨L, a, b, tw, fl⟩ := s
  simp only at h1 hl c
  subst h1
  simp only [St.next, hl]
  exact if_pos c
theorem next_new {s : St} {d t : ByteArray} (h1 : s.tw = false) (hl : look s.L d = none) (c : ¬ 8192 ≤ s.L.length) : s.next d t = { s with L := s.L ++ [(d, t)] } := by
  obtain ⟨L, a, b, tw, fl⟩ := s
  simp only at h1 hl c
  subst h1
  simp only [St.next, hl]
  exact if_neg c
theorem bk_inv (f : Int) (i : Nat) (hi : i < 9000) :
    ((bk f i).tw = true ∧ (bk f i).a ≠ (bk f i).b ∧ dig (bk f i).a = dig (bk f i).b ∧ (bk f i).a.size ≤ 4 ∧ (bk f i).b.size ≤ 4) ∨
    ((bk f i).tw = false ∧ (bk f i).L = (List.range (min i 8192)).map (fun j => (dig (txt f j), txt f j)) ∧ (bk f i).fl = decide (8192 < i)) := by
  induction i with
  | zero => exact .inr ⟨rfl, rfl, rfl⟩
  | succ i ih =>
    rcases ih (by omega) with ⟨h1, h2, h3⟩ | ⟨h1, h2, h3⟩
    · refine .inl ?_
      have e : bk f (i + 1) = bk f i := by rw [bk, St.next, h1]
      rw [e]; exact ⟨h1, h2, h3⟩
    · have hlen : (bk f i).L.length = min i 8192 := by rw [h2]; simp
      cases hl : look (bk f i).L (dig (txt f i)) with
      | some v =>
        have hm := look_mem _ _ _ hl
        rw [h2] at hm
        simp only [List.mem_map, List.mem_range, Prod.mk.injEq] at hm
        obtain ⟨j, hj, hd, rfl⟩ := hm
        have hne : txt f j ≠ txt f i := fun e => by have := txt_inj f (by omega) (by omega) e; omega
        have e : bk f (i + 1) = { bk f i with a := txt f j, b := txt f i, tw := true } := by
          rw [bk, next_two h1 hl (fun h => hne (toList_inj.mp h))]
        rw [e]
        exact .inl ⟨rfl, hne, hd, Nat.le_of_eq (txt_size f j), Nat.le_of_eq (txt_size f i)⟩
      | none =>
        by_cases c : 8192 ≤ (bk f i).L.length
        · have e : bk f (i + 1) = { bk f i with fl := true } := by
            rw [bk, next_full h1 hl c]
          rw [e]
          refine .inr ⟨h1, ?_, ?_⟩
          · show (bk f i).L = _
            rw [h2, show min i 8192 = 8192 by omega, show min (i + 1) 8192 = 8192 by omega]
          · exact (decide_eq_true (by omega)).symm
        · have e : bk f (i + 1) = { bk f i with L := (bk f i).L ++ [(dig (txt f i), txt f i)] } := by
            rw [bk, next_new h1 hl c]
          rw [e]
          refine .inr ⟨h1, ?_, ?_⟩
          · show (bk f i).L ++ _ = _
            rw [h2, show min (i + 1) 8192 = min i 8192 + 1 by omega, List.range_succ, List.map_append, show min i 8192 = i by omega]
            rfl
          · show (bk f i).fl = _
            rw [h3, decide_eq_false (by omega), decide_eq_false (by omega)]
set_option maxHeartbeats 8000000 in
set_option maxRecDepth 100000 in
theorem many_law (a f : Int) (ha : (Lit.int .i64 a).wf = true) (hf : (Lit.int .u32 f).wf = true) (w : World) (hG : SL w) :
    Calls Tryd.prog 4 #[.int .i64 a, .int .u32 f] w fun e w' => e = .returned (.bool true) ∧ Below w.heap.size w w' := by
  obtain ⟨q, hq⟩ : ∃ q : Nat, Go.bits .and .i64 a 3 = (q : Int) := ⟨(Go.bits .and .i64 a 3).toNat, by
    have h : Go.bits .and .i64 a ((2 ^ 2 - 1 : Nat) : Int) = a % ((2 ^ 2 : Nat) : Int) := and_mask64 a 2 (by decide) (by decide)
    have h2 : Go.bits .and .i64 a 3 = a % 4 := h
    rw [h2]; omega⟩
  have hq4 : q < 4 := by
    have h : Go.bits .and .i64 a ((2 ^ 2 - 1 : Nat) : Int) = a % ((2 ^ 2 : Nat) : Int) := and_mask64 a 2 (by decide) (by decide)
    have h2 : Go.bits .and .i64 a 3 = a % 4 := h
    omega
  obtain ⟨N, hn⟩ : ∃ N, wrap64 (8192 + (q : Int)) = N := ⟨_, rfl⟩
  have HNN := Aside0.mk (show N = 8192 + (q : Int) by rw [← hn, w64 (by omega) (by omega)])
  have HG := Aside0.mk hG
  have HQ4 := Aside0.mk hq4
  clear hG hq4
  go_enter Tryd.func4, Tryd.ntmps4
  go_wp2_with (first | (go_at_call 6; fail))
  refine (new_calls _).mono ?_
  rintro e w1 ⟨g, m, rfl, hg, hm, hk, hb⟩
  have HK := Aside0.mk hk
  have HB := Aside0.mk hb
  have HS := Aside0.mk (show ∀ k, (k = g ∨ k = m) → w.heap.size ≤ k by rintro k (rfl | rfl); exact hg; exact hm)
  clear hk hb hg hm
  go_wp2
  simp only [hn]
  go_loopw [7] (fun i wr => ∃ j : Nat, j ≤ 8192 + q ∧ i = .int .i64 (j : Int) ∧ IsBook wr g m 38 (bk f j) ∧ Below w.heap.size w wr) (fun i _ => 8192 + q - (intOf i).toNat)
  case atStart => exact ⟨0, by omega, rfl, HK.out, HB.out⟩
  case round =>
    clear HK HB
    obtain ⟨j, hj, rfl, hK, hB⟩ := hrel
    have HB := Aside0.mk hB; have HK := Aside0.mk hK
    clear hB hK
    by_cases hlt : j < 8192 + q
    · have q0 : decide ((j : Int) < N) = true := decide_eq_true (by have := HNN.out; omega)
      obtain ⟨k, hk⟩ : ∃ k : Int, (f + (j : Int)) % 4294967296 = k := ⟨_, rfl⟩
      have ux0 : 0 ≤ k := by omega
      have ux1 : k < 4294967296 := by omega
      have hj9 : j < 9000 := by have := HQ4.out; omega
      have hwj : IntKind.u32.wrap (j : Int) = (j : Int) := by rw [IntKind.wrap_u32]; omega
      have hwk : IntKind.u32.wrap (f + (j : Int)) = k := by rw [IntKind.wrap_u32]; exact hk
      obtain ⟨ys, hys⟩ : ∃ ys : List Int, ys = [k % 256, k / 256 % 256, k / 65536 % 256, k / 16777216 % 256] := ⟨_, rfl⟩
      have ht : strOfNums ys = txt f j := by
        rw [hys, txt, hk, nb]
      have HT := Aside0.mk ht
      have NY := Aside0.mk hys
      have hta : Int.tdiv k 16777216 = k / 16777216 := td ux0
      have htb : Int.tdiv k 65536 = k / 65536 := td ux0
      have htc : Int.tdiv k 256 = k / 256 := td ux0
      have htd : Int.tmod k 256 = k % 256 := tm ux0
      have hte : Int.tmod (k / 65536) 256 = k / 65536 % 256 := tm (by omega)
      have htf : Int.tmod (k / 256) 256 = k / 256 % 256 := tm (by omega)
      have hwa : IntKind.u32.wrap (k / 16777216) = k / 16777216 := by rw [IntKind.wrap_u32]; omega
      have hwb : IntKind.u32.wrap (k / 65536) = k / 65536 := by rw [IntKind.wrap_u32]; omega
      have hwc : IntKind.u32.wrap (k / 256) = k / 256 := by rw [IntKind.wrap_u32]; omega
      clear ux0 ux1 hys ht hk
      go_wp2_with ((with_reducible refine gate_dst (N := 37) rfl ?_); refine Kd.R_lit (Kd.int .u8) _ 5 ?hg (N := 37) ?hd (xs := ([k % 256, k / 256 % 256, k / 65536 % 256, k / 16777216 % 256] : List Int)) (inner := [.int .u8 (k % 256), .int .u8 (k / 256 % 256), .int .u8 (k / 65536 % 256), .int .u8 (k / 16777216 % 256)]) (ok := fun _ => True) (okp := fun _ => True) ?hr ?hp (fun _ hk => hk) trivial (Below.refl _ _) (Nat.le_refl _) (by simp) ?_; (case hd => rfl); (case hg => rfl); (case hr => first | (go_simp; done) | (go_simp; rfl)); (case hp => exact (Reps.one (show Kd.M (Kd.int .u8) _ _ _ (k % 256) [.int .u8 (k % 256)] from rfl) (Reps.one (show Kd.M (Kd.int .u8) _ _ _ (k / 256 % 256) [.int .u8 (k / 256 % 256)] from rfl) (Reps.one (show Kd.M (Kd.int .u8) _ _ _ (k / 65536 % 256) [.int .u8 (k / 65536 % 256)] from rfl) (Reps.one (show Kd.M (Kd.int .u8) _ _ _ (k / 16777216 % 256) [.int .u8 (k / 16777216 % 256)] from rfl) (Reps.none _ _)))))); intro v102 w7 ho8 hb hg_ hnew_; clear hg_ hnew_; rw [← NY.out] at ho8; have n0_ := Aside0.mk (Kd.R_lower ho8 HB.out.size); have n1_ := Aside0.mk (below_step HB.out hb); have n2_ := Aside0.mk (HK.out.below hb); clear HB HK; have HO103 := n0_; have HB := n1_; have HK := n2_; clear n0_ n1_ n2_; clear hb ho8; have hcv9 := own_string (P := Tryd.prog) Tryd.underlying33 Tryd.underlying5 Tryd.underlying9 (Kd.own_of_R HO103.out))
      go_wp2_with (first | (go_at_call 7; fail))
      rw [HT.out]
      refine (sum_calls g m (bk f j) (txt f j) (by rw [txt_size]; decide) _ (SL.below HG.out HB.out) HK.out).mono ?_
      rintro e w8 ⟨rfl, hk, hu⟩
      have n1_ := Aside0.mk (HB.out.trans (hu.below HB.out.size HS.out))
      clear HB HK hu
      have HB := n1_
      have HK := Aside0.mk (show IsBook w8 g m 38 (bk f (j + 1)) from hk)
      clear n1_ hk
      go_wp2
      go_roundw
      case measure => simp [intOf]; omega
      case rel => exact ⟨j + 1, by omega, by go_num, HK.out, HB.out⟩
    · have ej : j = 8192 + q := by omega
      have q0 : decide ((j : Int) < N) = false := decide_eq_false (by have := HNN.out; omega)
      obtain ⟨s, hs⟩ : ∃ s, bk f j = s := ⟨_, rfl⟩
      have hi := bk_inv f j (by have := HQ4.out; omega)
      rw [hs, ej] at hi
      have HI := Aside0.mk hi
      rw [hs] at HK
      clear hs hlt hj ej hi
      go_wp2_with (first | (go_at_call 9; fail))
      refine (twins_calls g m s _ HK.out).mono ?_
      rintro e w3 ⟨rfl, hb⟩
      have n1_ := Aside0.mk (below_step HB.out hb)
      have n2_ := Aside0.mk (HK.out.below hb)
      clear HB HK hb
      have HB := n1_
      have HK := n2_
      clear n1_ n2_
      go_wp2_with (first | (go_at_call 10; fail))
      refine (awake_calls _ (SL.below HG.out HB.out)).mono ?_
      rintro e w4 ⟨rfl, hb⟩
      have n1_ := Aside0.mk (below_step HB.out hb)
      have n2_ := Aside0.mk (HK.out.below hb)
      clear HB HK hb
      have HB := n1_
      have HK := n2_
      clear n1_ n2_
      cases ctw : s.tw with
      | true =>
        have HI2 : s.a ≠ s.b ∧ dig s.a = dig s.b ∧ s.a.size ≤ 4 ∧ s.b.size ≤ 4 := by
          rcases HI.out with ⟨_, h⟩ | ⟨h, _⟩
          · exact h
          · rw [ctw] at h; cases h
        have c2 : (s.a.toList != s.b.toList) = true := bne_iff_ne.mpr fun h => HI2.1 (toList_inj.mp h)
        have c1 : (s.a.toList == s.b.toList) = false := beq_eq_false_iff_ne.mpr fun h => HI2.1 (toList_inj.mp h)
        have HI3 := Aside0.mk HI2
        clear HI HI2
        go_wp2_with (first | (go_at_call 8; fail))
        refine (ref_dig s.a (by have := HI3.out; omega) _).mono ?_
        rintro e w5 ⟨rfl, hb⟩
        have n1_ := Aside0.mk (below_step HB.out hb)
        clear HB hb
        have HB := n1_
        clear n1_
        go_wp2_with (first | (go_at_call 8; fail))
        refine (ref_dig s.b (by have := HI3.out; omega) _).mono ?_
        rintro e w6 ⟨rfl, hb⟩
        have n1_ := Aside0.mk (below_step HB.out hb)
        clear HB hb
        have HB := n1_
        clear n1_
        have c3 : ((dig s.a).toList == (dig s.b).toList) = true := by rw [HI3.out.2.1]; exact beq_self_eq_true _
        go_wp2
        go_ret
        exact ⟨rfl, HB.out⟩
      | false =>
        have HI2 : s.L.length = 8192 ∧ s.fl = decide (8192 < 8192 + q) := by
          rcases HI.out with ⟨h, _⟩ | ⟨_, h1, h2⟩
          · rw [ctw] at h; cases h
          · exact ⟨by rw [h1]; simp, h2⟩
        have hlen : ((s.L.length : Nat) : Int) = 8192 := by rw [HI2.1]; rfl
        have hfl : s.fl = decide ((q : Int) > 0) := by rw [HI2.2]; exact decide_eq_decide.mpr (by omega)
        have HI3 := Aside0.mk HI2
        clear HI HI2
        go_wp2_with (first | (go_at_call 12; fail))
        refine (full_calls g m s _ HK.out).mono ?_
        rintro e w5 ⟨rfl, hb⟩
        have n1_ := Aside0.mk (below_step HB.out hb)
        have n2_ := Aside0.mk (HK.out.below hb)
        clear HB HK hb
        have HB := n1_
        have HK := n2_
        clear n1_ n2_
        have cq : (s.fl == decide ((q : Int) > 0)) = true := by rw [hfl]; exact beq_self_eq_true _
        have cq2 : (s.fl == decide ((0 : Int) < q)) = true := cq
        go_wp2_with (first | (go_at_call 11; fail))
        refine (len_calls g m s _ HK.out).mono ?_
        rintro e w6 ⟨rfl, hb⟩
        have n1_ := Aside0.mk (below_step HB.out hb)
        clear HB HK hb
        have HB := n1_
        clear n1_
        go_wp2
        go_ret
        exact ⟨rfl, HB.out⟩
end Go.Proofs.YtdkgdmjikoehaaaDoor.Bk
