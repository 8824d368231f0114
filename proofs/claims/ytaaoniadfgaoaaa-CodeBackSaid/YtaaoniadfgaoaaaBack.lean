/- CodeBack: numbers and texts are read as they were put; a number of more bytes than it must have is none. The plain law and the law's own walk, for every number and text. -/
import Derived.Test.YtaaoniadfgaoaaaRCodeBack
import Derived.Test.YtaaoniadfgaoaaaXW
namespace Go.Proofs.Ytaaoniadfgaoaaa.RCodeBack
open Go.RowKit Go.Proofs.Ytaaoniadfgaoaaa.PCodeBack Go.Proofs.YtaaoniadfgaoaaaW.PrintWords Go.Proofs.YtaaoniadfgaoaaaW.PrintLast Go.Proofs.YtaaoniadfgaoaaaW.PrintMore Go.Proofs.Ytaaoniadfgaoaaa.XB Go.Proofs.Ytaaoniadfgaoaaa.XW

theorem be_range (j : Nat) : ∀ n, ∀ x ∈ be j n, 0 ≤ x ∧ x ≤ 255 := by
  induction j with
  | zero => intro n x hx; simp [be] at hx
  | succ j ih =>
    intro n x hx
    simp only [be, List.mem_append, List.mem_singleton] at hx
    rcases hx with hx | rfl
    · exact ih _ x hx
    · omega
theorem or_byte (q c : Nat) (hc : c < 256) (hq : q * 256 < 18446744073709551616) : Go.bits .or .u64 ((q * 256 : Nat) : Int) (c : Int) = ((q * 256 + c : Nat) : Int) := by
  have h1 : c < 2 ^ 64 := Nat.lt_of_lt_of_le hc (by decide)
  have h2 : c < 2 ^ 8 := hc
  rw [(bits_u .u64 _ _ (q * 256) c rfl rfl hq h1 rfl).2.1, show q * 256 = 2 ^ 8 * q by omega, ← Nat.two_pow_add_eq_or_of_lt h2]
theorem fold_be (j : Nat) : ∀ n : Nat, n < 256 ^ j → n < 18446744073709551616 → code_Reader_high.fold (be j (n : Int)) = (n : Int) := by
  induction j with
  | zero => intro n h _; simp at h; subst h; rfl
  | succ j ih =>
    intro n h h64
    have e1 : (n : Int) / 256 = ((n / 256 : Nat) : Int) := by omega
    have e2 : (n : Int) % 256 = ((n % 256 : Nat) : Int) := by omega
    unfold be
    rw [code_Reader_high.fold_snoc, e1, e2, ih (n / 256) (by rw [Nat.pow_succ] at h; omega) (by omega), wu64s (by omega) (by omega), show (((n / 256 : Nat) : Int) * 256) = ((n / 256 * 256 : Nat) : Int) by omega, or_byte _ _ (by omega) (by omega)]
    omega
theorem high_reads (j : Nat) (n : Int) (h0 : 0 ≤ n) (h1 : n < 18446744073709551616) (hn : n < ((256 ^ j : Nat) : Int)) (hj : j ≤ 8) (rest : ByteArray) (m : Int) (hm : m = j) : code_Reader_high.f (strOfNums (be j n) ++ rest) 0 m = some (n, rest, 0) := by
  obtain ⟨a, rfl⟩ := Int.eq_ofNat_of_zero_le h0
  unfold code_Reader_high.f
  rw [bytes_some _ rest m (by rw [strOfNums_size, be_length]; exact hm), obs, if_pos (by rw [strOfNums_size, be_length]; omega), bytesOf_strOfNums (be_range j _), fold_be j a (Int.ofNat_lt.mp hn) (by omega)]
theorem big_reads (n : Int) (h0 : 0 ≤ n) (h1 : n < 18446744073709551616) (rest : ByteArray) : code_Reader_Big.f (strOfNums (be 8 n) ++ rest) 0 = some (n, rest, 0) := by
  unfold code_Reader_Big.f
  rw [high_reads 8 n h0 h1 h1 (by decide) rest 8 rfl, obs]
theorem small_reads (n : Int) (h0 : 0 ≤ n) (h1 : n < 4294967296) (rest : ByteArray) : code_Reader_Small.f (strOfNums (be 4 n) ++ rest) 0 = some (n, rest, 0) := by
  unfold code_Reader_Small.f
  rw [high_reads 4 n h0 (by omega) h1 (by decide) rest 4 rfl, obs, show n % 4294967296 = n by omega]

/-- a number's bytes, all marked as followed by more -/
def lebc : Nat → Int → List Int
  | 0, _ => []
  | f + 1, n => if n < 128 then [n + 128] else (n % 128 + 128) :: lebc f (n / 128)
theorem leb_pos (f : Nat) (n : Int) : 0 < (leb (f + 1) n).length := by unfold leb; split <;> simp
theorem leb_last (f : Nat) : ∀ n : Int, 0 ≤ n → n < 128 ^ (f + 1) → 0 ≤ (leb (f + 1) n).getD ((leb (f + 1) n).length - 1) 0 ∧ (leb (f + 1) n).getD ((leb (f + 1) n).length - 1) 0 < 128 ∧
    (leb (f + 1) n).set ((leb (f + 1) n).length - 1) ((leb (f + 1) n).getD ((leb (f + 1) n).length - 1) 0 + 128) = lebc (f + 1) n := by
  induction f with
  | zero =>
    intro n h0 h1
    have h2 : n < 128 := by simpa using h1
    simp only [leb, lebc, if_pos h2]
    simpa using ⟨h0, h2⟩
  | succ f ih =>
    intro n h0 h1
    by_cases c : n < 128
    · have e : leb (f + 1 + 1) n = [n] := by unfold leb; rw [if_pos c]
      have e2 : lebc (f + 1 + 1) n = [n + 128] := by unfold lebc; rw [if_pos c]
      rw [e, e2]
      simpa using ⟨h0, c⟩
    · have e : leb (f + 1 + 1) n = (n % 128 + 128) :: leb (f + 1) (n / 128) := by
        show (if n < 128 then [n] else (n % 128 + 128) :: leb (f + 1) (n / 128)) = _
        rw [if_neg c]
      have e2 : lebc (f + 1 + 1) n = (n % 128 + 128) :: lebc (f + 1) (n / 128) := by
        show (if n < 128 then [n + 128] else (n % 128 + 128) :: lebc (f + 1) (n / 128)) = _
        rw [if_neg c]
      obtain ⟨i0, i1, i2⟩ := ih (n / 128) (by omega) (by rw [Int.pow_succ] at h1; omega)
      have hp := leb_pos f (n / 128)
      obtain ⟨m, hm⟩ : ∃ m, (leb (f + 1) (n / 128)).length = m + 1 := ⟨_, (Nat.sub_add_cancel hp).symm⟩
      rw [e, e2, ← i2]
      rw [hm] at i0 i1 ⊢
      rw [List.length_cons, hm]
      simp only [Nat.add_sub_cancel] at *
      exact ⟨by simpa using i0, by simpa using i1, by simp⟩
theorem zero_bad (k i a : Nat) (most : Int) (h1 : 1 ≤ i) (h9 : i ≤ 9) : code_Reader_Num.l0 (k + 3) most (a : Int) (i : Int) (strOfNums [0]) 0 = some (0, (⟨#[]⟩ : ByteArray), 3) := by
  have hb := bytes_some (strOfNums [0]) (⟨#[]⟩ : ByteArray) 1 (by rw [strOfNums_size]; rfl)
  rw [append_empty] at hb
  unfold code_Reader_Num.l0
  rw [if_pos (by omega), hb]
  simp only [obs]
  rw [if_neg (by rw [strOfNums_toList]; simp), if_pos (by rw [strOfNums_size]; exact Int.one_pos), if_pos (by rw [w64 (by omega) (by omega)]; omega), bt_one 0 (by omega) (by omega), if_pos rfl, decide_eq_true (by omega)]
  unfold code_Reader_Num.j1
  rw [if_pos rfl]
  unfold code_Reader_Num.j2
  rw [if_pos rfl]
  rfl
theorem reads_bad (f : Nat) : ∀ (k i n a : Nat) (most : Int), 1 ≤ f → n < 128 ^ f → i + f ≤ 9 → a < 128 ^ i → 3 * f + 3 ≤ k →
    code_Reader_Num.l0 k most (a : Int) (i : Int) (strOfNums (lebc f (n : Int) ++ [0])) 0 = some (0, (⟨#[]⟩ : ByteArray), 3) := by
  induction f with
  | zero => intro k i n a most hf; omega
  | succ f ih =>
    intro k i n a most _ hn hi ha hk
    obtain ⟨k, rfl⟩ : ∃ m, k = m + 3 := ⟨k - 3, by omega⟩
    have h8 : 128 ^ i ≤ 128 ^ 8 := Nat.pow_le_pow_right (by decide) (by omega)
    have hnext : ∀ m : Nat, m < 128 → a + m * 128 ^ i < 128 ^ (i + 1) := by
      intro m hm
      rw [Nat.pow_succ]
      have : m * 128 ^ i ≤ 127 * 128 ^ i := Nat.mul_le_mul_right _ (by omega)
      omega
    have h64 : ∀ m : Nat, m < 128 → a + m * 128 ^ i < 18446744073709551616 := by
      intro m hm
      have := hnext m hm
      rw [Nat.pow_succ] at this
      have e8 : (128 : Nat) ^ 8 = 72057594037927936 := by decide
      rw [e8] at h8
      omega
    unfold lebc
    by_cases c : (n : Int) < 128
    · rw [if_pos c, strOfNums_append, step_more k i n a most _ (by omega) (by omega) ha (h64 n (by omega))]
      obtain ⟨k, rfl⟩ : ∃ m, k = m + 3 := ⟨k - 3, by omega⟩
      exact zero_bad k (i + 1) _ most (by omega) (by omega)
    · rw [if_neg c]
      have hf : 1 ≤ f := by
        rcases f with _ | f
        · simp at hn; omega
        · omega
      have e2 : (n : Int) / 128 = ((n / 128 : Nat) : Int) := by omega
      have e3 : (n : Int) % 128 = ((n % 128 : Nat) : Int) := by omega
      rw [e2, e3, show ((((n % 128 : Nat) : Int) + 128) :: lebc f ((n / 128 : Nat) : Int)) ++ [0] = [((n % 128 : Nat) : Int) + 128] ++ (lebc f ((n / 128 : Nat) : Int) ++ [0]) from rfl, strOfNums_append,
        step_more k i (n % 128) a most _ (by omega) (by omega) ha (h64 _ (by omega))]
      exact ih k (i + 1) (n / 128) _ most hf (by rw [Nat.pow_succ] at hn; omega) (by omega) (hnext _ (by omega)) (by omega)
theorem num_bad (n most : Int) (h0 : 0 ≤ n) (h1 : n < 9223372036854775808) (k : Nat) (hk : 30 ≤ k) : code_Reader_Num.f k (strOfNums (lebc 9 n ++ [0])) 0 most = some (0, (⟨#[]⟩ : ByteArray), 3) := by
  obtain ⟨a, rfl⟩ := Int.eq_ofNat_of_zero_le h0
  exact reads_bad 9 k 0 a 0 most (by decide) (by omega) (by decide) (by decide) (by omega)
theorem leb_more (f : Nat) : ∀ n : Int, 0 ≤ n → n < 128 ^ f → 1 ≤ f → leb (f + 1) n = leb f n := by
  induction f with
  | zero => intro n _ _ h; omega
  | succ f ih =>
    intro n h0 h1 _
    by_cases c : n < 128
    · unfold leb; rw [if_pos c, if_pos c]
    · have hf : 1 ≤ f := by
        rcases f with _ | f
        · simp at h1; omega
        · omega
      conv => lhs; unfold leb
      conv => rhs; unfold leb
      rw [if_neg c, if_neg c, ih (n / 128) (by omega) (by rw [Int.pow_succ] at h1; omega) hf]
theorem awake_true : lodestonelaw04_awake.f 20 = some true := by decide +kernel
theorem leb_range (f : Nat) : ∀ n : Int, 0 ≤ n → ∀ x ∈ leb f n, 0 ≤ x ∧ x ≤ 255 := by
  induction f with
  | zero => intro n _ x hx; simp [leb] at hx
  | succ f ih =>
    intro n h0 x hx
    unfold leb at hx
    split at hx
    · simp at hx; omega
    · simp only [List.mem_cons] at hx
      rcases hx with rfl | hx
      · omega
      · exact ih _ (by omega) x hx
theorem lebc_length (f : Nat) : ∀ n, (lebc f n).length ≤ f := by
  induction f with
  | zero => intro n; simp [lebc]
  | succ f ih => intro n; unfold lebc; split <;> simp; exact ih _

attribute [local go_sem] max2_int min2_int max_two min_two max_three min_three max_four min_four
set_option maxHeartbeats 4000000 in
set_option maxRecDepth 100000 in
/-- the walk: what the calls tell is handed in as equations of plain functions -/
theorem law_walk (n : Int) (s t N1 T1 B1 S1 R1 R2 R3 N2 N3 : ByteArray) (hs : s.size ≤ 140737488351232)
    (ht : s.extract 0 (mn (s.size : Int) 300).toNat = t) (hN1 : code_Num.f 40 n = some N1) (hT1 : code_Text.f 40 t = some T1) (hB1 : code_Big.f n = some B1) (hS1 : code_Small.f (n % 4294967296) = some S1)
    (z1 : N1.size + T1.size ≤ 100000) (z2 : (N1 ++ T1).size + B1.size ≤ 100000) (z3 : (N1 ++ T1 ++ B1).size + S1.size ≤ 100000)
    (hR1 : code_Reader_Num.f 40 (N1 ++ T1 ++ B1 ++ S1) 0 18446744073709551615 = some (n, R1, 0)) (hR2 : code_Reader_Text.f 40 R1 0 300 = some (t, R2, 0)) (hR3 : code_Reader_Big.f R2 0 = some (n, R3, 0)) (hR4 : code_Reader_Small.f R3 0 = some (n % 4294967296, ⟨#[]⟩, 0))
    (hN2 : code_Num.f 40 (n / 128) = some N2) (p2 : 0 < N2.size) (p3 : N2.size ≤ 10) (hN3 : strOfNums ((bytesOf N2).set (N2.size - 1) (Go.bits .or .u8 ((bytesOf N2).getD (N2.size - 1) 0) 128)) = N3) (z4 : N3.size + 1 ≤ 100000)
    (hR5 : code_Reader_Num.f 40 (N3 ++ (⟨#[0]⟩ : ByteArray)) 0 18446744073709551615 = some (0, ⟨#[]⟩, 3)) (w : World) :
    Calls Try.prog 5 #[.int .u64 n, .string s] w fun e w' => e = .returned (.bool true) ∧ Below w.heap.size w w' := by
  have HB := Aside0.mk (Below.refl w.heap.size w)
  obtain ⟨m0, m1⟩ : 0 ≤ mn (s.size : Int) 300 ∧ mn (s.size : Int) 300 ≤ s.size := by unfold mn; split <;> omega
  obtain ⟨ji, hji⟩ : ∃ j : Int, mn (s.size : Int) 300 = j := ⟨_, rfl⟩
  rw [hji] at m0 m1 ht
  have hji_ : (if 300 < (s.size : Int) then 300 else (s.size : Int)) = ji := hji
  have d0 : decide (0 ≤ ji) = true := decide_eq_true m0
  have d1 : decide (ji ≤ (s.size : Int)) = true := decide_eq_true m1
  have g1 := eq_true (show N1.size + T1.size ≤ 9223372036854775807 by omega)
  have g2 := eq_true (show (N1 ++ T1).size + B1.size ≤ 9223372036854775807 by omega)
  have g3 := eq_true (show (N1 ++ T1 ++ B1).size + S1.size ≤ 9223372036854775807 by omega)
  have g4 := eq_true (show N3.size + 1 ≤ 9223372036854775807 by omega)
  have g4b := eq_true (show N3.size < 9223372036854775807 by omega)
  have g4c := eq_false (show ¬ 9223372036854775807 ≤ N3.size by omega)
  have g4d := eq_false (show ¬ 9223372036854775807 < N3.size + 1 by omega)
  rw [size_append] at z2
  rw [size_append, size_append] at z3
  have g1d := eq_false (show ¬ 9223372036854775807 < N1.size + T1.size by omega)
  have g2d := eq_false (show ¬ 9223372036854775807 < N1.size + T1.size + B1.size by omega)
  have g3d := eq_false (show ¬ 9223372036854775807 < N1.size + T1.size + B1.size + S1.size by omega)
  have g5 : decide ((N2.size : Int) = 0) = false := decide_eq_false (by omega)
  have g6 : ((N2.size : Int) == 0) = false := beq_eq_false_iff_ne.mpr (by omega)
  have A1 := Aside0.mk hN1; have A2 := Aside0.mk hT1; have A3 := Aside0.mk hB1; have A4 := Aside0.mk hS1; have A5 := Aside0.mk hR1; have A6 := Aside0.mk hR2; have A7 := Aside0.mk hR3; have A8 := Aside0.mk hR4
  have A9 := Aside0.mk hN2; have A10 := Aside0.mk hN3; have A11 := Aside0.mk hR5
  obtain ⟨lb, hlb⟩ : ∃ lb, (bytesOf N2).getD (N2.size - 1) 0 = lb := ⟨_, rfl⟩
  rw [hlb] at A10
  clear hN1 hT1 hB1 hS1 hR1 hR2 hR3 hR4 hN2 hN3 hR5 z1 z2 z3 z4
  have kc := fun (W : World) (s : ByteArray) => print_bytes (P := Try.prog) 9 42 5 Try.underlying9 Try.underlying42 Try.underlying5 s W
  go_enter Try.func5, Try.ntmps5
  go_wp2_with (first
    | (go_at_call 7; (with_reducible refine (code_Num.calls 40 n N1 _ A1.out).mono ?_); rintro e w1 ⟨rfl, hb⟩; have n0 := Aside0.mk (below_step HB.out hb); clear HB hb; have HB := n0; clear n0)
    | (go_at_call 12; (with_reducible refine (code_Text.calls 40 t T1 _ A2.out).mono ?_); rintro e w2 ⟨rfl, hb⟩; have n0 := Aside0.mk (below_step HB.out hb); clear HB hb; have HB := n0; clear n0)
    | (go_at_call 9; (with_reducible refine (code_Big.calls n B1 _ A3.out).mono ?_); rintro e w3 ⟨rfl, hb⟩; have n0 := Aside0.mk (below_step HB.out hb); clear HB hb; have HB := n0; clear n0)
    | (go_at_call 11; (with_reducible refine (code_Small.calls (n % 4294967296) S1 _ A4.out).mono ?_); rintro e w4 ⟨rfl, hb⟩; have n0 := Aside0.mk (below_step HB.out hb); clear HB hb; have HB := n0; clear n0)
    | (go_at_call 26; (with_reducible refine (code_Read.calls (N1 ++ T1 ++ B1 ++ S1) _ _ w _ HB.out rfl).mono ?_); rintro e w5 ⟨gr, rfl, hi, hb, hb2⟩; have HR := Aside0.mk hi; clear HB; have HB := Aside0.mk hb; clear hi hb hb2)
    | (go_at_call 22; (with_reducible refine (code_Reader_Num.calls 40 gr _ _ _ n R1 0 w _ HR.out HB.out A5.out).mono ?_); rintro e w6 ⟨rfl, hi, hb, hk⟩; clear HR HB; have HR := Aside0.mk hi; have HB := Aside0.mk hb; clear hi hb hk)
    | (go_at_call 23; (with_reducible refine (code_Reader_Text.calls 40 gr _ _ _ t R2 0 w _ HR.out HB.out A6.out).mono ?_); rintro e w7 ⟨rfl, hi, hb, hk⟩; clear HR HB; have HR := Aside0.mk hi; have HB := Aside0.mk hb; clear hi hb hk)
    | (go_at_call 20; (with_reducible refine (code_Reader_Big.calls gr _ _ n R3 0 w _ HR.out HB.out A7.out).mono ?_); rintro e w8 ⟨rfl, hi, hb, hk⟩; clear HR HB; have HR := Aside0.mk hi; have HB := Aside0.mk hb; clear hi hb hk)
    | (go_at_call 21; (with_reducible refine (code_Reader_Small.calls gr _ _ (n % 4294967296) _ 0 w _ HR.out HB.out A8.out).mono ?_); rintro e w9 ⟨rfl, hi, hb, hk⟩; clear HR HB; have HR := Aside0.mk hi; have HB := Aside0.mk hb; clear hi hb hk)
    | (go_at_call 7; ((with_reducible refine (code_Num.calls 40 (n / 128) N2 _ A9.out).mono ?_); rintro e w10 ⟨rfl, hb⟩; have n1 := Aside0.mk (show IsS46 w w10 gr ⟨#[]⟩ 0 from ⟨blk_below HR.out.1 hb, HR.out.2⟩); clear HR; have HR := n1; clear n1; have n0 := Aside0.mk (below_step HB.out hb); clear HB hb; have HB := n0; clear n0; have hc := reads_cell (bytes_reads w10 5 N2 (by omega)) (N2.size - 1) (by omega); have hf := bytes_frozen w10 5 N2 (N2.size - 1) (by omega); rw [hlb] at hc; have hv : (convert 42 9 (.slice (some ⟨w10.heap.size, 0, none⟩) N2.size (grownCap w10 N2.size 0 5))).run Try.prog ((Lib.bytesWorld w10 5 N2).setCell ⟨w10.heap.size, N2.size - 1, none⟩ (.int .u8 (Go.bits .or .u8 lb 128))) = .ok (.string N3) ((Lib.bytesWorld w10 5 N2).setCell ⟨w10.heap.size, N2.size - 1, none⟩ (.int .u8 (Go.bits .or .u8 lb 128))) := (by have z := string_of_reads (P := Try.prog) (c := grownCap w10 N2.size 0 5) Try.underlying42 Try.underlying5 Try.underlying9 (reads_set (bytes_reads w10 5 N2 (by omega)) (N2.size - 1) (by omega) (Go.bits .or .u8 lb 128)); rw [A10.out] at z; exact z); have HW := Aside0.mk (below_set (bytes_below HB.out HB.out.size 5 N2) HB.out.size (j := N2.size - 1) (v := .int .u8 (Go.bits .or .u8 lb 128))); have HRW := Aside0.mk (show IsS46 w ((Lib.bytesWorld w10 5 N2).setCell ⟨w10.heap.size, N2.size - 1, none⟩ (.int .u8 (Go.bits .or .u8 lb 128))) gr ⟨#[]⟩ 0 from ⟨blk_far (blk_below HR.out.1 (bytes_below (Below.refl w10.heap.size w10) (Nat.le_refl _) 5 N2)) (Nat.ne_of_lt (blk_lt HR.out.1)) _, HR.out.2⟩)))
    | (go_at_call 26; generalize (Lib.bytesWorld w10 5 N2).setCell ⟨w10.heap.size, N2.size - 1, none⟩ (.int .u8 (Go.bits .or .u8 lb 128)) = W at HW HRW ⊢; clear HB HR hc hf hv; (with_reducible refine (code_Read.calls (N3 ++ (⟨#[0]⟩ : ByteArray)) _ _ W W (Below.refl _ _) rfl).mono ?_); rintro e w11 ⟨g2, rfl, hi, hb, hb2⟩; have HR2 := Aside0.mk hi; have HB2 := Aside0.mk hb; clear hi hb hb2)
    | (go_at_call 22; (with_reducible refine (code_Reader_Num.calls 40 g2 _ _ _ 0 ⟨#[]⟩ 3 W _ HR2.out HB2.out A11.out).mono ?_); rintro e w12 ⟨rfl, hi, hb, hk⟩; clear HR2 HB2; have HR2 := Aside0.mk hi; have HB2 := Aside0.mk hb; clear hi hb hk)
    | (go_at_call 6; (with_reducible refine (lodestonelaw04_awake.calls 20 true _ awake_true).mono ?_); rintro e w13 ⟨rfl, hb⟩; have n0 := Aside0.mk (HB2.out.trans (hb.mono HB2.out.size)); have n1 := Aside0.mk (show IsS46 W w13 g2 ⟨#[]⟩ 3 from ⟨blk_below HR2.out.1 hb, HR2.out.2⟩); clear HB2 HR2; have HB2 := n0; have HR2 := n1; clear n0 n1 hb; have HRA := Aside0.mk (show IsS46 w w13 gr ⟨#[]⟩ 0 from ⟨blk_below HRW.out.1 HB2.out, HRW.out.2⟩); have HBA := Aside0.mk (HW.out.trans (HB2.out.mono HW.out.size)))
    | (go_at_call 25; ((with_reducible refine (code_Reader_End.calls gr ⟨#[]⟩ 0 0 ⟨#[]⟩ 0 w _ HRA.out HBA.out (by decide +kernel)).mono ?_); rintro e w14 ⟨rfl, hi, hb, hk⟩; have HB3 := Aside0.mk hb; have HR3 := Aside0.mk (show IsS46 w w14 g2 ⟨#[]⟩ 3 from ⟨hk.blk HR2.out.1 (by have h1 := blk_lt HRW.out.1; have h2 := HR2.out.2; omega) (by simp), by have h1 := HW.out.size; have h2 := HR2.out.2; omega⟩); clear hi hb hk))
    | (go_at_call 17; (with_reducible refine (code_Reader_Err.calls g2 ⟨#[]⟩ 3 3 ⟨#[]⟩ 3 w _ HR3.out HB3.out rfl).mono ?_); rintro e w15 ⟨rfl, hi, hb, hk⟩; have HB4 := Aside0.mk hb; clear hi hb hk))
  go_ret
  exact ⟨rfl, HB4.out⟩


theorem leb9 (n : Int) (h0 : 0 ≤ n) (h1 : n < 144115188075855872) : leb 10 n = leb 9 n := leb_more 9 n h0 (by omega) (by decide)
theorem law_calls (n : Int) (s : ByteArray) (hn : (Lit.int .u64 n).wf = true) (hs : s.size ≤ 140737488351232) (w : World) :
    Calls Try.prog 5 #[.int .u64 n, .string s] w fun e w' => e = .returned (.bool true) ∧ Below w.heap.size w w' := by
  obtain ⟨h0, h1⟩ := bounds_u64 hn
  have hm : mn (s.size : Int) 300 ≤ 300 := by unfold mn; split <;> omega
  obtain ⟨t, ht⟩ : ∃ t, s.extract 0 (mn (s.size : Int) 300).toNat = t := ⟨_, rfl⟩
  have hts : t.size ≤ 300 := by rw [← ht, size_extract]; omega
  have l1 := leb_length 10 n
  have l2 := leb_length 10 (t.size : Int)
  have l3 := leb_length 9 (n / 128)
  have l4 := lebc_length 9 (n / 128)
  have lp : 0 < (leb 9 (n / 128)).length := leb_pos 8 (n / 128)
  have hB : bytesOf (strOfNums (leb 9 (n / 128))) = leb 9 (n / 128) := bytesOf_strOfNums (leb_range 9 (n / 128) (by omega))
  obtain ⟨q0, q1, q2⟩ : 0 ≤ (leb 9 (n / 128)).getD ((leb 9 (n / 128)).length - 1) 0 ∧ (leb 9 (n / 128)).getD ((leb 9 (n / 128)).length - 1) 0 < 128 ∧ (leb 9 (n / 128)).set ((leb 9 (n / 128)).length - 1) ((leb 9 (n / 128)).getD ((leb 9 (n / 128)).length - 1) 0 + 128) = lebc 9 (n / 128) :=
    leb_last 8 (n / 128) (by omega) (by omega)
  refine law_walk n s t (strOfNums (leb 10 n)) (strOfNums (leb 10 (t.size : Int)) ++ t) (strOfNums (be 8 n)) (strOfNums (be 4 (n % 4294967296)))
    (strOfNums (leb 10 (t.size : Int)) ++ t ++ strOfNums (be 8 n) ++ strOfNums (be 4 (n % 4294967296))) (strOfNums (be 8 n) ++ strOfNums (be 4 (n % 4294967296))) (strOfNums (be 4 (n % 4294967296)))
    (strOfNums (leb 9 (n / 128))) (strOfNums (lebc 9 (n / 128))) hs ht ?_ ?_ ?_ ?_ ?_ ?_ ?_ ?_ ?_ ?_ ?_ ?_ ?_ ?_ ?_ ?_ ?_ w
  · exact num_some n h0 (by omega) 40 (by decide)
  · exact text_some t (by omega) 40 (by decide)
  · exact big_some n h0 (by omega)
  · exact small_some _
  · simp only [size_append, strOfNums_size]; omega
  · simp only [size_append, strOfNums_size, be_length]; omega
  · simp only [size_append, strOfNums_size, be_length]; omega
  · rw [append_assoc (strOfNums (leb 10 n)), append_assoc (strOfNums (leb 10 n))]
    exact num_reads n _ h0 (by omega) (by omega) _ 40 (by decide)
  · rw [append_assoc, append_assoc]
    exact text_reads t _ 300 (by omega) (by omega) 40 (by decide)
  · exact big_reads n h0 (by omega) _
  · have := small_reads (n % 4294967296) (by omega) (by omega) (⟨#[]⟩ : ByteArray)
    rwa [append_empty] at this
  · rw [← leb9 (n / 128) (by omega) (by omega)]
    exact num_some _ (by omega) (by omega) 40 (by decide)
  · rw [strOfNums_size]; exact lp
  · rw [strOfNums_size]; omega
  · rw [hB, strOfNums_size, or_u8_128 q0 (by omega), show 128 + (leb 9 (n / 128)).getD ((leb 9 (n / 128)).length - 1) 0 % 128 = (leb 9 (n / 128)).getD ((leb 9 (n / 128)).length - 1) 0 + 128 by omega]
    rw [q2]
  · rw [strOfNums_size]; omega
  · have := num_bad (n / 128) 18446744073709551615 (by omega) (by omega) 40 (by decide)
    rwa [strOfNums_append] at this
end Go.Proofs.Ytaaoniadfgaoaaa.RCodeBack
