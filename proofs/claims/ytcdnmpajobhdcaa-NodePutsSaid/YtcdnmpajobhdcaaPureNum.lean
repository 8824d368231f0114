/- Plain laws of numbers: put, and read again, or not where there is more than may be. -/
import Derived.Test.YtcdnmpajobhdcaaPNodePutsx5
import Derived.Test.YtcdnmpajobhdcaaPNodePutsx11
import Derived.Test.YtcdnmpajobhdcaaPNodePutsx8
import Derived.Test.YtcdnmpajobhdcaaXB
namespace Go.Proofs.Ytcdnmpajobhdcaa.Pure
open Go.RowKit Go.Proofs.Ytcdnmpajobhdcaa.PNodePuts Go.Proofs.YtcdnmpajobhdcaaW.PrintWords Go.Proofs.YtcdnmpajobhdcaaW.PrintLast Go.Proofs.YtcdnmpajobhdcaaW.PrintMore Go.Proofs.Ytcdnmpajobhdcaa.XB
set_option linter.unusedVariables false
set_option linter.unusedSimpArgs false
def leb : Nat → Int → List Int
  | 0, _ => []
  | f + 1, n => if n < 128 then [n] else (n % 128 + 128) :: leb f (n / 128)
theorem leb_length (f : Nat) : ∀ n, (leb f n).length ≤ f := by
  induction f with
  | zero => intro n; simp [leb]
  | succ f ih => intro n; unfold leb; split <;> simp; exact ih _
theorem num_loop (f : Nat) : ∀ (k : Nat) (n : Int) (acc : List Int), 1 ≤ f → 0 ≤ n → n < 128 ^ f → n < 18446744073709551616 → f ≤ k → acc.length + f < 1000 →
    code_Num.l0 k n acc = some (strOfNums (acc ++ leb f n)) := by
  induction f with
  | zero => intro k n acc hf; omega
  | succ f ih =>
    intro k n acc _ h0 h1 h2 hk ha
    obtain ⟨k, rfl⟩ : ∃ m, k = m + 1 := ⟨k - 1, by omega⟩
    unfold code_Num.l0 leb
    by_cases c : n > 127
    · rw [if_pos c, if_pos (by omega), if_neg (by omega), or_u8_128 (by omega) (by omega)]
      have e : 128 + n % 256 % 128 = n % 128 + 128 := by omega
      rw [e, ih k (n / 128) _ (by rcases f with _ | f; simp at h1; omega; omega) (by omega) (by rw [Int.pow_succ] at h1; omega) (by omega) (by omega) (by simp; omega)]
      simp
    · rw [if_neg c, if_pos (by omega), if_pos (by omega), show n % 256 = n by omega]
theorem num_some (n : Int) (h0 : 0 ≤ n) (h1 : n < 18446744073709551616) (k : Nat) (hk : 10 ≤ k) : code_Num.f k n = some (strOfNums (leb 10 n)) := by
  unfold code_Num.f
  rw [num_loop 10 k n [] (by decide) h0 (by omega) h1 hk (by simp)]
  rfl
theorem bytes_some (a rest : ByteArray) (m : Int) (hm : m = a.size) : code_Reader_Bytes.f (a ++ rest) 0 m = some (a, rest, 0) := by
  unfold code_Reader_Bytes.f
  have hs := size_append a rest
  rw [if_neg (by omega), if_neg (by omega)]
  by_cases c : m > 0
  · rw [if_pos c, hm, Int.toNat_natCast, extract_left, extract_right]
  · have h0 : a.size = 0 := by omega
    have ha : a = (⟨#[]⟩ : ByteArray) := by
      apply eq_of_data
      have := data_len a
      rw [List.eq_nil_of_length_eq_zero (this.trans h0)]
    rw [if_neg c, ha, empty_append]
theorem bt_one (b : Int) (h0 : 0 ≤ b) (h1 : b < 256) : bt (strOfNums [b]) 0 = b := by
  rw [← rd_bytesOf, bytesOf_strOfNums (by simp; omega)]; rfl
theorem shl_u64 (x n : Int) (h : n.toNat ≤ 64) : shl .u64 x n = IntKind.u64.wrap (x * 2 ^ n.toNat) := by
  show IntKind.u64.wrap (x * 2 ^ min n.toNat 64) = _
  rw [Nat.min_eq_left h]
theorem or_disjoint (a b : Nat) (i : Nat) (ha : a < 2 ^ i) (hb : b * 2 ^ i < 2 ^ 64) (ha64 : a < 2 ^ 64) : Go.bits .or .u64 (a : Int) ((b * 2 ^ i : Nat) : Int) = ((a + b * 2 ^ i : Nat) : Int) := by
  rw [(bits_u .u64 _ _ a (b * 2 ^ i) rfl rfl ha64 hb rfl).2.1, Nat.or_comm, Nat.mul_comm, ← Nat.two_pow_add_eq_or_of_lt ha, Nat.add_comm]
theorem or_place (i a b : Nat) (hi : i ≤ 9) (ha : a < 128 ^ i) (hs : a + b * 128 ^ i < 18446744073709551616) : Go.bits .or .u64 (a : Int) (shl .u64 (IntKind.u64.wrap (b : Int)) (wrap64 (7 * (i : Int)))) = ((a + b * 128 ^ i : Nat) : Int) := by
  have hp : 128 ^ i = 2 ^ (7 * i) := by rw [show (128 : Nat) = 2 ^ 7 by rfl, Nat.pow_mul]
  have hpos : 0 < 128 ^ i := Nat.pow_pos (by decide)
  have hb1 : b ≤ b * 128 ^ i := Nat.le_mul_of_pos_right _ hpos
  rw [w64 (x := 7 * (i : Int)) (by omega) (by omega), shl_u64 _ _ (by omega), show (7 * (i : Int)).toNat = 7 * i by omega]
  have hpi : (2 : Int) ^ (7 * i) = ((128 ^ i : Nat) : Int) := by rw [hp]; simp
  rw [hpi]
  generalize hP : 128 ^ i = P at *
  clear hpi
  rw [wu64s (x := (b : Int)) (by omega) (by omega), ← Int.natCast_mul, wu64s (by omega) (by omega)]
  have h1 : b * P < 2 ^ 64 := Nat.lt_of_le_of_lt (Nat.le_add_left _ _) hs
  have h2 : a < 2 ^ 64 := Nat.lt_of_le_of_lt (Nat.le_add_right _ _) hs
  subst hp
  exact or_disjoint a b (7 * i) ha h1 h2
/-- the last byte of a number -/
theorem step_last (k i n a : Nat) (most : Int) (rest : ByteArray) (hn : n < 128) (hi : i ≤ 9) (ha : a < 128 ^ i) (hs : a + n * 128 ^ i < 18446744073709551616) (hz : 0 < n ∨ i = 0) (hi9 : i = 9 → n ≤ 1) :
    code_Reader_Num.l0 (k + 3) most (a : Int) (i : Int) (strOfNums [(n : Int)] ++ rest) 0 = (if ((a + n * 128 ^ i : Nat) : Int) ≤ most then some (((a + n * 128 ^ i : Nat) : Int), rest, 0) else some (0, (⟨#[]⟩ : ByteArray), 3)) := by
  have hb := bytes_some (strOfNums [(n : Int)]) rest 1 (by rw [strOfNums_size]; rfl)
  have hor := or_place i a n hi ha hs
  generalize 128 ^ i = P at *
  unfold code_Reader_Num.l0
  rw [if_pos (by omega), hb]
  simp only [obs]
  rw [if_neg (by rw [strOfNums_toList]; simp), if_pos (by rw [strOfNums_size]; exact Int.one_pos), if_pos (by rw [w64 (by omega) (by omega)]; omega), bt_one _ (by omega) (by omega), and_u8_127 (by omega) (by omega),
    show (n : Int) % 128 = n by omega, hor]
  have hand : Go.bits .and .u8 (n : Int) 128 = 0 := by rw [and_u8_128 (by omega) (by omega), if_pos (by omega)]
  have fin : ∀ z, code_Reader_Num.j2 (k + 1) most ((a + n * P : Nat) : Int) (n : Int) z false rest 0 = (if ((a + n * P : Nat) : Int) ≤ most then some (((a + n * P : Nat) : Int), rest, 0) else some (0, (⟨#[]⟩ : ByteArray), 3)) := by
    intro z
    unfold code_Reader_Num.j2
    rw [if_neg (by simp), if_pos hand]
    by_cases cm : ((a + n * P : Nat) : Int) ≤ most
    · rw [if_neg (by omega), if_pos cm]
    · rw [if_pos (by omega), if_neg cm]; rfl
  have fin1 : ∀ z, code_Reader_Num.j1 (k + 2) most ((a + n * P : Nat) : Int) (i : Int) (n : Int) z false rest 0 = (if ((a + n * P : Nat) : Int) ≤ most then some (((a + n * P : Nat) : Int), rest, 0) else some (0, (⟨#[]⟩ : ByteArray), 3)) := by
    intro z
    unfold code_Reader_Num.j1
    rw [if_neg (by simp)]
    by_cases h9 : (i : Int) = 9
    · rw [if_pos h9, decide_eq_false (by have := hi9 (by omega); omega)]; exact fin z
    · rw [if_neg h9]; exact fin z
  by_cases h0 : (n : Int) = 0
  · rw [if_pos h0, decide_eq_false (by omega)]; exact fin1 _
  · rw [if_neg h0]; exact fin1 _
/-- a byte that more follow -/
theorem step_more (k i m a : Nat) (most : Int) (s : ByteArray) (hm : m < 128) (hi : i ≤ 8) (ha : a < 128 ^ i) (hs : a + m * 128 ^ i < 18446744073709551616) :
    code_Reader_Num.l0 (k + 3) most (a : Int) (i : Int) (strOfNums [(m : Int) + 128] ++ s) 0 = code_Reader_Num.l0 k most ((a + m * 128 ^ i : Nat) : Int) ((i + 1 : Nat) : Int) s 0 := by
  have hb := bytes_some (strOfNums [(m : Int) + 128]) s 1 (by rw [strOfNums_size]; rfl)
  have hor := or_place i a m (by omega) ha hs
  generalize 128 ^ i = P at *
  conv => lhs; unfold code_Reader_Num.l0
  rw [if_pos (by omega), hb]
  simp only [obs]
  rw [if_neg (by rw [strOfNums_toList]; simp), if_pos (by rw [strOfNums_size]; exact Int.one_pos), if_pos (by rw [w64 (by omega) (by omega)]; omega), bt_one _ (by omega) (by omega), and_u8_127 (by omega) (by omega),
    show ((m : Int) + 128) % 128 = m by omega, hor, if_neg (by omega)]
  unfold code_Reader_Num.j1
  rw [if_neg (by simp), if_neg (by omega)]
  unfold code_Reader_Num.j2
  rw [if_neg (by simp), if_neg (by rw [and_u8_128 (by omega) (by omega), if_neg (by omega)]; decide), w64 (x := (i : Int) + 1) (by omega) (by omega)]
  rfl
/-- a number is read as it was put: at place i, what was read before is a -/
theorem reads (f : Nat) : ∀ (k i n a : Nat) (most : Int) (rest : ByteArray), 1 ≤ f → n < 128 ^ f → i + f ≤ 10 → a < 128 ^ i → a + n * 128 ^ i < 18446744073709551616 → (0 < n ∨ i = 0) → 3 * f ≤ k →
    code_Reader_Num.l0 k most (a : Int) (i : Int) (strOfNums (leb f (n : Int)) ++ rest) 0 = (if ((a + n * 128 ^ i : Nat) : Int) ≤ most then some (((a + n * 128 ^ i : Nat) : Int), rest, 0) else some (0, (⟨#[]⟩ : ByteArray), 3)) := by
  induction f with
  | zero => intro k i n a most rest hf; omega
  | succ f ih =>
    intro k i n a most rest _ hn hi ha hs hz hk
    obtain ⟨k, rfl⟩ : ∃ m, k = m + 3 := ⟨k - 3, by omega⟩
    have hi9 : i = 9 → n ≤ 1 := by
      intro e; subst e
      have : (128 : Nat) ^ 9 = 9223372036854775808 := by decide
      rw [this] at hs; omega
    unfold leb
    by_cases c : (n : Int) < 128
    · rw [if_pos c]
      exact step_last k i n a most rest (by omega) (by omega) ha hs hz hi9
    · rw [if_neg c]
      have hf : 1 ≤ f := by
        rcases f with _ | f
        · simp at hn; omega
        · omega
      have hq : n / 128 < 128 ^ f := by rw [Nat.pow_succ] at hn; omega
      have hmod : n % 128 * 128 ^ i ≤ n * 128 ^ i := Nat.mul_le_mul_right _ (Nat.mod_le _ _)
      have hmod2 : n % 128 * 128 ^ i ≤ 127 * 128 ^ i := Nat.mul_le_mul_right _ (by omega)
      have hsplit : a + n % 128 * 128 ^ i + n / 128 * 128 ^ (i + 1) = a + n * 128 ^ i := by
        rw [Nat.pow_succ, Nat.mul_comm (128 ^ i) 128, ← Nat.mul_assoc, Nat.add_assoc, ← Nat.add_mul]
        congr 2; omega
      have e2 : (n : Int) / 128 = ((n / 128 : Nat) : Int) := by omega
      have e3 : (n : Int) % 128 = ((n % 128 : Nat) : Int) := by omega
      have hnext := ih k (i + 1) (n / 128) (a + n % 128 * 128 ^ i) most rest hf hq (by omega) (by rw [Nat.pow_succ]; omega) (by rw [hsplit]; exact hs) (.inl (by omega)) (by omega)
      rw [hsplit] at hnext
      rw [e2, e3, show (((n % 128 : Nat) : Int) + 128) :: leb f ((n / 128 : Nat) : Int) = [((n % 128 : Nat) : Int) + 128] ++ leb f ((n / 128 : Nat) : Int) from rfl, strOfNums_append, append_assoc,
        step_more k i (n % 128) a most _ (by omega) (by omega) ha (by omega)]
      exact hnext
theorem num_any (n most : Int) (h0 : 0 ≤ n) (h1 : n < 18446744073709551616) (rest : ByteArray) (k : Nat) (hk : 30 ≤ k) : code_Reader_Num.f k (strOfNums (leb 10 n) ++ rest) 0 most = if n ≤ most then some (n, rest, 0) else some (0, (⟨#[]⟩ : ByteArray), 3) := by
  obtain ⟨a, rfl⟩ := Int.eq_ofNat_of_zero_le h0
  have := reads 10 k 0 a 0 most rest (by decide) (by omega) (by decide) (by decide) (by omega) (.inr rfl) (by omega)
  rw [Nat.pow_zero, Nat.mul_one, Nat.zero_add] at this
  exact this
theorem ref_num (f : Nat) : ∀ (k : Nat) (n : Int), 1 ≤ f → 0 ≤ n → n < 128 ^ f → n < 18446744073709551616 → f ≤ k → f < 1000 →
    lodestoneref04_Num.f k n = some (strOfNums (leb f n)) := by
  induction f with
  | zero => intro k n hf; omega
  | succ f ih =>
    intro k n _ h0 h1 h2 hk hf
    obtain ⟨k, rfl⟩ : ∃ m, k = m + 1 := ⟨k - 1, by omega⟩
    unfold lodestoneref04_Num.f leb
    by_cases c : n < 128
    · rw [if_pos c, if_pos c, show n % 256 = n by omega]
    · rw [if_neg c, if_neg c, tm h0, td h0, wu64s (x := n / 128) (by omega) (by omega), ih k (n / 128) (by rcases f with _ | f; simp at h1; omega; omega) (by omega) (by rw [Int.pow_succ] at h1; omega) (by omega) (by omega) (by omega),
        wu64s (by omega) (by omega), show (n % 128 + 128) % 256 = n % 128 + 128 by omega]
      simp only [Option.bind_some]
      have := leb_length f (n / 128)
      rw [if_pos (by rw [strOfNums_size, strOfNums_size]; simp; omega), ← strOfNums_append]
      rfl
theorem ref_num_some (n : Int) (h0 : 0 ≤ n) (h1 : n < 18446744073709551616) (k : Nat) (hk : 10 ≤ k) : lodestoneref04_Num.f k n = some (strOfNums (leb 10 n)) :=
  ref_num 10 k n (by decide) h0 (by omega) h1 hk (by decide)
end Go.Proofs.Ytcdnmpajobhdcaa.Pure
