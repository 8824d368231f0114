import Derived.Test.YtgbhjkkfleeodaaDoorShaF
import Derived.Test.YtgbhjkkfleeodaaDoorXB
import Derived.Test.YtgbhjkkfleeodaaDoorXI
namespace Go.Proofs.YtgbhjkkfleeodaaDoor.Sha
open Go.RowKit Go.Proofs.YtgbhjkkfleeodaaDoorW.PrintWords Go.Proofs.YtgbhjkkfleeodaaDoorW.PrintLast Go.Proofs.YtgbhjkkfleeodaaDoorW.PrintMore Go.Proofs.YtgbhjkkfleeodaaDoor.XA Go.Proofs.YtgbhjkkfleeodaaDoor.XM
open Go.Proofs.YtgbhjkkfleeodaaDoor.XB
set_option linter.unusedVariables false
set_option linter.unusedSimpArgs false
def dv (n : Int) : Nat → Int
  | 0 => n
  | j + 1 => dv n j / 256
def tl (n : Int) : Nat → List Int
  | 0 => []
  | j + 1 => dv n j % 256 :: tl n j
theorem tl_length (n : Int) (j : Nat) : (tl n j).length = j := by
  induction j with
  | zero => rfl
  | succ j ih => simp [tl, ih]
theorem tl_eight (n : Int) : tl n 8 = tail8 n := by
  simp only [tl, dv, tail8]
  congr 1
  · omega
  congr 1
  · omega
  congr 1
  · omega
  congr 1
  · omega
  congr 1
  · omega
  congr 1
  · omega
theorem dv_range {n : Int} (h0 : 0 ≤ n) (h1 : n < 18446744073709551616) (j : Nat) : 0 ≤ dv n j ∧ dv n j < 18446744073709551616 := by
  induction j with
  | zero => exact ⟨h0, h1⟩
  | succ j ih => unfold dv; omega
theorem str_128 : (⟨#[128]⟩ : ByteArray) = strOfNums [128] := by apply eq_of_data; rw [strOfNums_data]; rfl
theorem str_0 : (⟨#[0]⟩ : ByteArray) = strOfNums [0] := by apply eq_of_data; rw [strOfNums_data]; rfl
theorem str_nil : (⟨#[]⟩ : ByteArray) = strOfNums [] := by apply eq_of_data; rw [strOfNums_data]; rfl
def strN : Value → Nat | .string s => s.size | _ => 0
set_option maxHeartbeats 8000000 in
set_option maxRecDepth 100000 in
theorem padded_calls (s : ByteArray) (hs : s.size ≤ 140737488351232) (w : World) :
    Calls Tryd.prog 51 #[.string s] w fun e w' => e = .returned (.string (strOfNums (padL s))) ∧ Below w.heap.size w w' := by
  have HB := Aside0.mk (Below.refl w.heap.size w)
  have c2b0 : (s.size + 1 ≤ 9223372036854775807) = True := eq_true (by omega)
  have c2b2 : (9223372036854775807 < s.size + 1) = False := eq_false (by omega)
  go_enter Tryd.func51, Tryd.ntmps51
  go_wp2
  go_loopw [3] (fun v wr => ∃ j : Nat, j ≤ zc s.size ∧ v = .string (s ++ ⟨#[128]⟩ ++ strOfNums (List.replicate j 0)) ∧ Below w.heap.size w wr) (fun v _ => s.size + 1 + zc s.size - strN v)
  case atStart => exact ⟨0, by omega, by simp only [List.replicate]; rw [← str_nil, append_empty], HB.out⟩
  case round =>
    clear HB c2b0 c2b2
    obtain ⟨j, hj, rfl, hb⟩ := hrel
    have HB := Aside0.mk hb
    clear hb
    have hz : zc s.size ≤ 63 := by unfold zc; omega
    obtain ⟨x, hx⟩ : ∃ x, s ++ (⟨#[128]⟩ : ByteArray) ++ strOfNums (List.replicate j 0) = x := ⟨_, rfl⟩
    have hn : x.size = s.size + 1 + j := by rw [← hx, size_append, size_append, strOfNums_size, List.length_replicate]; rfl
    simp only [hx]
    have HX := Aside0.mk hx
    have HN := Aside0.mk hn
    by_cases hjz : j = zc s.size
    · have e56 : x.size % 64 = 56 := by rw [hn, hjz]; unfold zc; omega
      have c1 : ((x.size : Int) % 64 != 56) = false := by
        rw [bne_eq_false_iff_eq]; omega
      subst hjz
      obtain ⟨n8, hn8⟩ : ∃ n : Int, (s.size : Int) * 8 = n := ⟨_, rfl⟩
      clear hn hx e56
      go_wp2
      have hn0 : 0 ≤ n8 := by omega
      have hn1 : n8 < 18446744073709551616 := by omega
      have HN8 := Aside0.mk hn8
      have HR := Aside0.mk (And.intro hn0 hn1)
      clear hn8 c1 hn0 hn1
      go_loopw [4, 5, 6] (fun t d i wr => ∃ j : Nat, j ≤ 8 ∧ t = .string (strOfNums (tl n8 j)) ∧ d = .int .u64 (dv n8 j) ∧ i = .int .i64 (j : Int) ∧ Below w.heap.size w wr) (fun _ _ i _ => 8 - (intOf i).toNat)
      case atStart => exact ⟨0, by omega, by rw [str_nil]; rfl, rfl, rfl, HB.out⟩
      case round =>
        clear HB
        obtain ⟨j, hj, rfl, rfl, rfl, hb⟩ := hrel
        have HB := Aside0.mk hb
        clear hb
        obtain ⟨t, ht⟩ : ∃ t, strOfNums (tl n8 j) = t := ⟨_, rfl⟩
        have htn : t.size = j := by rw [← ht, strOfNums_size, tl_length]
        obtain ⟨hd0, hd1⟩ := dv_range HR.out.1 HR.out.2 j
        obtain ⟨d, hd⟩ : ∃ d, dv n8 j = d := ⟨_, rfl⟩
        rw [hd] at hd0 hd1
        simp only [ht, hd]
        have HT := Aside0.mk ht
        have HD := Aside0.mk hd
        clear ht hd
        by_cases h8 : j < 8
        · have b0 : decide ((j : Int) < 8) = true := decide_eq_true (by omega)
          obtain ⟨ys, hys⟩ : ∃ ys : List Int, ys = [d % 256 % 256] := ⟨_, rfl⟩
          have hsz : (strOfNums ys).size = 1 := by rw [strOfNums_size, hys]; rfl
          have b1 : ((strOfNums ys).size + t.size ≤ 9223372036854775807) = True := eq_true (by omega)
          have b2 : (9223372036854775807 < (strOfNums ys).size + t.size) = False := eq_false (by omega)
          have NY := Aside0.mk hys
          have hjj := Aside0.mk htn
          have htm : Int.tmod d 256 = d % 256 := tm hd0
          have htd : Int.tdiv d 256 = d / 256 := td hd0
          have hwu : IntKind.u64.wrap (d / 256) = d / 256 := wu64s (by omega) (by omega)
          have hw1 : wrap64 ((j : Int) + 1) = (j : Int) + 1 := w64 (by omega) (by omega)
          clear hys hsz htn
          go_wp2_with (first | ((with_reducible refine gate_dst (N := 26) rfl ?_); refine Kd.R_lit (Kd.int .u8) _ 5 ?hg (N := 26) ?hd (xs := ([d % 256 % 256] : List Int)) (inner := [.int .u8 (d % 256 % 256)]) (ok := fun _ => True) (okp := fun _ => True) ?hr ?hp (fun _ hk => hk) trivial (Below.refl _ _) (Nat.le_refl _) (by simp) ?_; (case hd => rfl); (case hg => rfl); (case hr => first | (go_simp; done) | (go_simp; rfl)); (case hp => exact (Reps.one (show Kd.M (Kd.int .u8) _ _ _ (d % 256 % 256) [.int .u8 (d % 256 % 256)] from rfl) (Reps.none _ _))); intro v102 w7 ho8 hb hg_ hnew_; clear hg_ hnew_; rw [← NY.out] at ho8; have n0_ := Aside0.mk (Kd.R_lower ho8 HB.out.size); have n1_ := Aside0.mk (below_step HB.out hb); clear HB; have HO103 := n0_; have HB := n1_; clear n0_ n1_; clear hb ho8; have hcv9 := own_string (P := Tryd.prog) Tryd.underlying34 Tryd.underlying5 Tryd.underlying9 (Kd.own_of_R HO103.out)))
          go_roundw
          case measure => simp [intOf]; omega
          case rel =>
            refine ⟨j + 1, by omega, ?_, ?_, by go_num, HB.out⟩
            · rw [← HT.out, ← strOfNums_append, NY.out, tl, HD.out]
              simp only [List.cons_append, List.nil_append, Int.emod_emod_of_dvd _ (Int.dvd_refl 256)]
            · rw [dv, HD.out]
        · have b0 : decide ((j : Int) < 8) = false := decide_eq_false (by omega)
          have hj8 : j = 8 := by omega
          have b1 : (x.size + t.size ≤ 9223372036854775807) = True := eq_true (by have := HN.out; omega)
          have b2 : (9223372036854775807 < x.size + t.size) = False := eq_false (by have := HN.out; omega)
          have H8 := Aside0.mk hj8
          clear hj8 htn
          go_wp2
          go_ret
          refine ⟨congrArg (fun r => Ending.returned (Value.string r)) (show x ++ t = strOfNums (padL s) from ?_), HB.out⟩
          rw [← HT.out, H8.out, tl_eight, ← HX.out, ← HN8.out]
          unfold padL
          rw [strOfNums_append, strOfNums_append, strOfNums_append, strOfNums_bytesOf, str_128]
    · have e56 : x.size % 64 ≠ 56 := by rw [hn]; unfold zc at *; omega
      have c1 : ((x.size : Int) % 64 != 56) = true := by
        rw [bne_iff_ne]; omega
      have b1 : (x.size + 1 ≤ 9223372036854775807) = True := eq_true (by omega)
      have b2 : (9223372036854775807 < x.size + 1) = False := eq_false (by omega)
      have HJ := Aside0.mk hjz
      clear hn hx e56 hjz
      go_wp2
      go_roundw
      case measure =>
        have h1 := HN.out
        have h2 := HJ.out
        have h3 : (x ++ (⟨#[0]⟩ : ByteArray)).size = x.size + 1 := size_append _ _
        simp only [strN, h3]
        omega
      case rel =>
        have h2 := HJ.out
        refine ⟨j + 1, by omega, ?_, HB.out⟩
        rw [← HX.out, append_assoc, str_0, ← strOfNums_append, ← List.replicate_succ']
end Go.Proofs.YtgbhjkkfleeodaaDoor.Sha
