/- The plain law of OrderPuts: parts are the document's. -/
import Derived.Test.YtlllahlhijikoaaDoorPOrderPutsx1
import Derived.Test.YtlllahlhijikoaaDoorXB
import Derived.Test.YtlllahlhijikoaaDoorXL
namespace Go.Proofs.YtlllahlhijikoaaDoor.Pure
open Go.RowKit Go.Proofs.YtlllahlhijikoaaDoor.POrderPuts Go.Proofs.YtlllahlhijikoaaDoorW.PrintWords Go.Proofs.YtlllahlhijikoaaDoorW.PrintLast Go.Proofs.YtlllahlhijikoaaDoor.XB Go.Proofs.YtlllahlhijikoaaDoor.XL
set_option linter.unusedVariables false
set_option linter.unusedSimpArgs false
/-- so many bytes, the highest first -/
def be : Nat → Int → List Int
  | 0, _ => []
  | j + 1, n => be j (n / 256) ++ [n % 256]
theorem be_length (j : Nat) : ∀ n, (be j n).length = j := by
  induction j with
  | zero => intro n; rfl
  | succ j ih => intro n; simp [be, ih]
theorem be_range (j : Nat) : ∀ n, ∀ x ∈ be j n, 0 ≤ x ∧ x ≤ 255 := by
  induction j with
  | zero => intro n x hx; exact absurd hx List.not_mem_nil
  | succ j ih =>
    intro n x hx
    rcases List.mem_append.mp hx with h | h
    · exact ih _ x h
    · rcases List.mem_singleton.mp h with rfl
      omega
theorem small_some (x : Int) : code_Small.f x = some (strOfNums (be 4 x)) := by
  unfold code_Small.f
  congr 2
  simp only [be, List.nil_append, List.cons_append]
  rw [show x / 256 / 256 / 256 = x / 16777216 by omega, show x / 256 / 256 = x / 65536 by omega]
theorem big_some (x : Int) (h0 : 0 ≤ x) (h1 : x < 18446744073709551616) : code_Big.f x = some (strOfNums (be 8 x)) := by
  unfold code_Big.f
  rw [small_some _, small_some _]
  simp only [obs]
  rw [if_pos (by rw [strOfNums_size, strOfNums_size, be_length, be_length]; decide), ← strOfNums_append]
  congr 2
  simp only [be, List.nil_append, List.cons_append, List.cons.injEq, and_true]
  refine ⟨?_, ?_, ?_, ?_, ?_, ?_, ?_, ?_⟩ <;> omega
/-- as many bytes as a number has -/
def mbs : Nat → Int → List Int
  | 0, _ => []
  | m + 1, x => if x = 0 then [] else mbs m (x / 256) ++ [x % 256]
theorem mbs_succ (m : Nat) (x : Int) : mbs (m + 1) x = if x = 0 then [] else mbs m (x / 256) ++ [x % 256] := rfl
theorem mbs_zero (m : Nat) : mbs m 0 = [] := by cases m <;> rfl
theorem mbs_length (m : Nat) : ∀ x, (mbs m x).length ≤ m := by
  induction m with
  | zero => intro x; exact Nat.le_refl _
  | succ m ih =>
    intro x
    unfold mbs
    by_cases c : x = 0
    · rw [if_pos c]; exact Nat.zero_le _
    · rw [if_neg c, List.length_append, List.length_singleton]
      have := ih (x / 256)
      omega
theorem mbs_range (m : Nat) : ∀ x, ∀ y ∈ mbs m x, 0 ≤ y ∧ y ≤ 255 := by
  induction m with
  | zero => intro x y hy; exact absurd hy List.not_mem_nil
  | succ m ih =>
    intro x y hy
    unfold mbs at hy
    by_cases c : x = 0
    · rw [if_pos c] at hy; exact absurd hy List.not_mem_nil
    · rw [if_neg c] at hy
      rcases List.mem_append.mp hy with h | h
      · exact ih _ y h
      · rcases List.mem_singleton.mp h with rfl
        omega
theorem trim_be (m : Nat) : ∀ x, 0 ≤ x → x < ((256 ^ m : Nat) : Int) → (be m x).dropWhile (· == 0) = mbs m x := by
  induction m with
  | zero => intro x _ _; rfl
  | succ m ih =>
    intro x h0 h1
    have h2 : x / 256 < ((256 ^ m : Nat) : Int) := by
      rw [Nat.pow_succ] at h1
      generalize 256 ^ m = q at h1
      omega
    have h3 := ih (x / 256) (by omega) h2
    unfold be
    rw [List.dropWhile_append, h3, mbs_succ]
    by_cases c : x = 0
    · subst c
      rw [if_pos rfl]
      have h4 : mbs m (0 / 256) = [] := mbs_zero m
      rw [h4]
      rfl
    · rw [if_neg c]
      cases hm : mbs m (x / 256) with
      | nil =>
        have h5 : x / 256 = 0 := by
          cases m with
          | zero =>
            have : x / 256 < 1 := h2
            omega
          | succ m =>
            rw [mbs_succ] at hm
            by_cases c2 : x / 256 = 0
            · exact c2
            · rw [if_neg c2] at hm
              exact absurd hm (by simp)
        have h6 : (x % 256 == 0) = false := beq_eq_false_iff_ne.mpr (by omega)
        simp [h6]
      | cons a l => simp
theorem trim_nums (l : List Int) (hl : ∀ x ∈ l, 0 ≤ x ∧ x ≤ 255) : Go.Lib.trimLeftB (strOfNums l).data.toList 0 = (l.dropWhile (· == 0)).map fun n => UInt8.ofNat n.toNat := by
  unfold Go.Lib.trimLeftB
  rw [strOfNums_data]
  induction l with
  | nil => rfl
  | cons a l ih =>
    have ha := hl a List.mem_cons_self
    have e : (UInt8.ofNat a.toNat == 0) = (a == 0) := by
      rw [Bool.eq_iff_iff, beq_iff_eq, beq_iff_eq]
      constructor
      · intro h
        have h2 := congrArg UInt8.toNat h
        have h3 : (UInt8.ofNat a.toNat).toNat = a.toNat % 256 := UInt8.toNat_ofNat'
        have h4 : (0 : UInt8).toNat = 0 := rfl
        omega
      · rintro rfl; rfl
    rw [List.map_cons, List.dropWhile_cons, List.dropWhile_cons, e]
    by_cases c : (a == 0) = true
    · rw [if_pos c, if_pos c, ih (fun x hx => hl x (List.mem_cons_of_mem _ hx))]
    · rw [if_neg c, if_neg c, List.map_cons]
/-- a number as a part -/
def numP (x : Int) : ByteArray := strOfNums ([16 + ((mbs 8 x).length : Int)] ++ mbs 8 x)
theorem num_part (x : Int) (h0 : 0 ≤ x) (h1 : x < 18446744073709551616) : order_Num.f x = some (numP x) := by
  have h2 : strings_TrimLeft.f (strOfNums (be 8 x)) (⟨#[0]⟩ : ByteArray) = some (strOfNums (mbs 8 x)) := by
    unfold strings_TrimLeft.f
    rw [if_pos ((toList_data _).trans rfl), trim_nums _ (be_range 8 x), trim_be 8 x h0 (by exact h1)]
    rfl
  have h3 := mbs_length 8 x
  have h4 : (strOfNums (mbs 8 x)).size = (mbs 8 x).length := strOfNums_size _
  unfold order_Num.f
  rw [big_some x h0 h1, Option.bind_some, h2, Option.bind_some, Option.bind_some, h4, w64 (by omega) (by omega), if_pos (by rw [strOfNums_size]; simp only [List.length_singleton]; omega), ← strOfNums_append, numP]
  congr 3
  simp only [List.cons.injEq, and_true]
  omega
/-- the highest bit turned -/
theorem flip63 (y : Int) (h0 : 0 ≤ y) (h1 : y < 18446744073709551616) : Go.bits .xor .u64 y 9223372036854775808 = IntKind.u64.wrap (y + 9223372036854775808) := by
  obtain ⟨n, rfl⟩ : ∃ n : Nat, y = n := ⟨y.toNat, by omega⟩
  have hn : n < 18446744073709551616 := by omega
  have hx : ∀ z : Nat, z < 2 ^ 63 → (2 ^ 63 + z) = (2 ^ 63 ^^^ z) := fun z hz => by
    have h := Nat.two_pow_add_eq_or_of_lt hz 1
    rw [Nat.mul_one] at h
    rw [h]
    apply Nat.eq_of_testBit_eq
    intro i
    rw [Nat.testBit_or, Nat.testBit_xor, Nat.testBit_two_pow]
    by_cases c : 63 = i
    · subst c
      rw [Nat.testBit_lt_two_pow hz]
      rfl
    · simp [c]
  have hb : Go.bits .xor .u64 ((n : Nat) : Int) 9223372036854775808 = (((n ^^^ 2 ^ 63) : Nat) : Int) := by
    show IntKind.u64.wrap (((BitVec.ofInt 64 ((n : Nat) : Int) ^^^ BitVec.ofInt 64 9223372036854775808).toNat : Nat) : Int) = _
    have e1 : (BitVec.ofInt 64 ((n : Nat) : Int)).toNat = n := by simp; omega
    have e2 : (BitVec.ofInt 64 9223372036854775808).toNat = 2 ^ 63 := by decide
    rw [BitVec.toNat_xor, e1, e2, wu64s (by omega)]
    have h2 : n ^^^ 2 ^ 63 < 2 ^ 64 := Nat.xor_lt_two_pow hn (by decide)
    omega
  rw [hb, wu64]
  by_cases c : n < 2 ^ 63
  · have h2 := hx n c
    rw [Nat.xor_comm, ← h2]
    omega
  · obtain ⟨z, rfl⟩ : ∃ z, n = 2 ^ 63 + z := ⟨n - 2 ^ 63, by omega⟩
    have h2 := hx z (by omega)
    rw [h2, Nat.xor_comm, ← Nat.xor_assoc, Nat.xor_self, Nat.zero_xor, ← h2]
    omega
/-- a number with a sign as a part -/
def intP (x : Int) : ByteArray := strOfNums ([32] ++ be 8 ((x + 9223372036854775808) % 18446744073709551616))
theorem int_part (x : Int) (h0 : -9223372036854775808 ≤ x) (h1 : x < 9223372036854775808) : order_Int.f x = some (intP x) := by
  have e1 : IntKind.u64.wrap (IntKind.u64.wrap x + 9223372036854775808) = (x + 9223372036854775808) % 18446744073709551616 := by rw [wu64, wu64]; omega
  unfold order_Int.f
  rw [flip63 _ (by rw [wu64]; omega) (by rw [wu64]; omega), e1, big_some _ (by omega) (by omega), Option.bind_some, if_pos (by rw [strOfNums_size, be_length]; decide), intP, strOfNums_append]
  rfl
/-- a text's bytes, the nothings marked -/
def esc : List UInt8 → List UInt8
  | [] => []
  | c :: l => if c = 0 then 0 :: 255 :: esc l else c :: esc l
theorem idx_cons (c : UInt8) (l : List UInt8) : Go.Lib.index (c :: l) [0] = if c = 0 then 0 else if Go.Lib.index l [0] = -1 then -1 else Go.Lib.index l [0] + 1 := by
  rw [Go.Lib.index]
  by_cases h : c = 0
  · subst h; rfl
  · have h2 : ([0] : List UInt8).isPrefixOf (c :: l) = false := by simp [List.isPrefixOf, Ne.symm h]
    rw [h2, if_neg h]
    by_cases h3 : Go.Lib.index l [0] = -1
    · simp [h3]
    · simp [h3]
theorem idx_ge (l : List UInt8) : -1 ≤ Go.Lib.index l [0] := Go.Lib.index_ge l [0]
theorem replaceK_cons (c : UInt8) (hc : c ≠ 0) (k : Nat) (l : List UInt8) : Go.Lib.replaceK [0] [0, 255] (k + 1) (c :: l) = c :: Go.Lib.replaceK [0] [0, 255] (k + 1) l := by
  rw [Go.Lib.replaceK, Go.Lib.replaceK, idx_cons, if_neg hc]
  by_cases h : Go.Lib.index l [0] = -1
  · rw [if_pos h, h]; rfl
  · have hg := idx_ge l
    obtain ⟨i, hi⟩ : ∃ i : Nat, Go.Lib.index l [0] = i := ⟨(Go.Lib.index l [0]).toNat, by omega⟩
    rw [if_neg h, hi]
    have e1 : ((i : Int) + 1 == -1) = false := beq_eq_false_iff_ne.mpr (by omega)
    have e2 : ((i : Int) == -1) = false := beq_eq_false_iff_ne.mpr (by omega)
    have e3 : ((i : Int) + 1).toNat = i + 1 := by omega
    rw [e1, e2, e3, Int.toNat_natCast]
    have e4 : i + 1 + ([0] : List UInt8).length = (i + ([0] : List UInt8).length) + 1 := by omega
    rw [if_neg (by decide), if_neg (by decide), e4, List.drop_succ_cons, List.take_succ_cons]
    rfl
theorem replaceK_zero (k : Nat) (l : List UInt8) : Go.Lib.replaceK [0] [0, 255] (k + 1) (0 :: l) = 0 :: 255 :: Go.Lib.replaceK [0] [0, 255] k l := by
  rw [Go.Lib.replaceK, idx_cons, if_pos rfl]
  rfl
theorem repl_esc : ∀ (l : List UInt8) (k : Nat), l.count 0 ≤ k → Go.Lib.replaceK [0] [0, 255] k l = esc l
  | [], k, _ => by cases k <;> rfl
  | c :: l, k, h => by
    by_cases hc : c = 0
    · subst hc
      rw [List.count_cons_self] at h
      obtain ⟨k, rfl⟩ : ∃ m, k = m + 1 := ⟨k - 1, by omega⟩
      rw [replaceK_zero, repl_esc l k (by omega), esc, if_pos rfl]
    · have h2 : l.count 0 ≤ k := by rwa [List.count_cons_of_ne hc] at h
      rw [esc, if_neg hc]
      cases k with
      | zero =>
        have h3 := repl_esc l 0 h2
        rw [← h3]; rfl
      | succ k => rw [replaceK_cons c hc, repl_esc l (k + 1) h2]
theorem countFrom_cons (c : UInt8) (hc : c ≠ 0) (f : Nat) (l : List UInt8) : Go.Lib.countFrom [0] (f + 1) (c :: l) = Go.Lib.countFrom [0] (f + 1) l := by
  rw [Go.Lib.countFrom, Go.Lib.countFrom, idx_cons, if_neg hc]
  by_cases h : Go.Lib.index l [0] = -1
  · rw [if_pos h, h]; rfl
  · have hg := idx_ge l
    obtain ⟨i, hi⟩ : ∃ i : Nat, Go.Lib.index l [0] = i := ⟨(Go.Lib.index l [0]).toNat, by omega⟩
    rw [if_neg h, hi]
    have e1 : ((i : Int) + 1 == -1) = false := beq_eq_false_iff_ne.mpr (by omega)
    have e2 : ((i : Int) == -1) = false := beq_eq_false_iff_ne.mpr (by omega)
    have e3 : ((i : Int) + 1).toNat = i + 1 := by omega
    rw [e1, e2, e3, Int.toNat_natCast]
    have e4 : i + 1 + ([0] : List UInt8).length = (i + ([0] : List UInt8).length) + 1 := by omega
    rw [if_neg (by decide), if_neg (by decide), e4, List.drop_succ_cons]
theorem countFrom_zero (f : Nat) (l : List UInt8) : Go.Lib.countFrom [0] (f + 1) (0 :: l) = 1 + Go.Lib.countFrom [0] f l := by
  rw [Go.Lib.countFrom, idx_cons, if_pos rfl]
  rfl
theorem countFrom_eq : ∀ (l : List UInt8) (f : Nat), l.length < f → Go.Lib.countFrom [0] f l = l.count 0
  | [], f, h => by
    obtain ⟨f, rfl⟩ : ∃ m, f = m + 1 := ⟨f - 1, by omega⟩
    rfl
  | c :: l, f, h => by
    rw [List.length_cons] at h
    obtain ⟨f, rfl⟩ : ∃ m, f = m + 1 := ⟨f - 1, by omega⟩
    by_cases hc : c = 0
    · subst hc
      rw [countFrom_zero, countFrom_eq l f (by omega), List.count_cons_self]; omega
    · rw [countFrom_cons c hc, countFrom_eq l (f + 1) (by omega), List.count_cons_of_ne hc]
theorem count_eq (l : List UInt8) : Go.Lib.count l [0] = l.count 0 := countFrom_eq l _ (Nat.lt_succ_self _)
theorem replaceAll_esc (l : List UInt8) : Go.Lib.replaceAll l [0] [0, 255] = esc l := by
  unfold Go.Lib.replaceAll Go.Lib.replace Go.Lib.replaceNum
  rw [if_neg (by decide), if_pos (.inl (by decide)), count_eq]
  exact repl_esc l _ (Nat.le_refl _)
def txtP (s : ByteArray) : ByteArray := ⟨(48 :: esc s.data.toList ++ [0, 1]).toArray⟩
theorem esc_length : ∀ l, (esc l).length ≤ 2 * l.length
  | [] => Nat.le_refl _
  | c :: l => by
    have := esc_length l
    unfold esc
    split <;> simp only [List.length_cons] <;> omega
theorem text_part (s : ByteArray) (hs : s.size ≤ 1000) : order_Text.f s = some (txtP s) := by
  have hc : Go.Lib.countB s (⟨#[0]⟩ : ByteArray) ≤ s.size := by
    show Go.Lib.count s.data.toList [0] ≤ _
    rw [count_eq, ← data_len]
    exact List.count_le_length
  have h1 : strings_ReplaceAll.f s (⟨#[0]⟩ : ByteArray) (⟨#[0, 255]⟩ : ByteArray) = some ⟨(esc s.data.toList).toArray⟩ := by
    unfold strings_ReplaceAll.f
    rw [if_pos ⟨by omega, by decide, by show s.size + Go.Lib.countB s (⟨#[0]⟩ : ByteArray) * 2 ≤ _; omega⟩]
    congr 3
    exact replaceAll_esc s.data.toList
  have h2 : (⟨(esc s.data.toList).toArray⟩ : ByteArray).size = (esc s.data.toList).length := by rw [← data_len]
  have h3 := esc_length s.data.toList
  have h4 : s.data.toList.length = s.size := data_len s
  have h5 : ((⟨#[48]⟩ : ByteArray) ++ (⟨(esc s.data.toList).toArray⟩ : ByteArray)).size = 1 + (esc s.data.toList).length := by rw [ByteArray.size_append, h2]; rfl
  unfold order_Text.f
  rw [h1, Option.bind_some, if_pos (by omega), if_pos (by omega)]
  congr 1
theorem ref_num_loop : ∀ (m k : Nat) (x : Int) (acc : ByteArray), 0 ≤ x → x < ((256 ^ m : Nat) : Int) → x < 18446744073709551616 → m + 1 ≤ k → m + acc.size ≤ 100 →
    lodestoneref05_Num.l0 k x acc = some (strOfNums [16 + (((mbs m x).length + acc.size : Nat) : Int)] ++ (strOfNums (mbs m x) ++ acc)) := by
  intro m
  induction m with
  | zero =>
    intro k x acc h0 h1 h2 hk ha
    obtain ⟨k, rfl⟩ : ∃ m, k = m + 1 := ⟨k - 1, by omega⟩
    have hx : x = 0 := by have : x < 1 := h1; omega
    subst hx
    have e0 : strOfNums (mbs 0 0) ++ acc = acc := empty_append acc
    rw [e0, lodestoneref05_Num.l0, if_neg (by decide), Option.bind_some, if_pos (by rw [strOfNums_size]; simp only [List.length_singleton]; omega), w64 (by omega) (by omega)]
    congr 4
    show (16 + (acc.size : Int)) % 256 = 16 + ((0 + acc.size : Nat) : Int)
    omega
  | succ m ih =>
    intro k x acc h0 h1 h2 hk ha
    obtain ⟨k, rfl⟩ : ∃ m, k = m + 1 := ⟨k - 1, by omega⟩
    by_cases c : x = 0
    · subst c
      have e0 : strOfNums (mbs (m + 1) 0) ++ acc = acc := by rw [mbs_zero]; exact empty_append acc
      rw [e0, mbs_zero, lodestoneref05_Num.l0, if_neg (by decide), Option.bind_some, if_pos (by rw [strOfNums_size]; simp only [List.length_singleton]; omega), w64 (by omega) (by omega)]
      congr 4
      show (16 + (acc.size : Int)) % 256 = 16 + ((0 + acc.size : Nat) : Int)
      omega
    · have h3 : x / 256 < ((256 ^ m : Nat) : Int) := by
        rw [Nat.pow_succ] at h1
        generalize 256 ^ m = q at h1
        omega
      have hs : (strOfNums [Int.tmod x 256 % 256]).size = 1 := strOfNums_size _
      have e1 : Int.tmod x 256 % 256 = x % 256 := by rw [Int.tmod_eq_emod_of_nonneg h0]; omega
      have e2 : Int.tdiv x 256 = x / 256 := Int.tdiv_eq_ediv_of_nonneg h0
      have e3 : (strOfNums [x % 256] ++ acc).size = 1 + acc.size := by rw [ByteArray.size_append]; rw [e1] at hs; omega
      rw [lodestoneref05_Num.l0, if_pos (by omega), Option.bind_some, if_pos (by omega), e1, e2, wu64s (by omega) (by omega), ih k (x / 256) _ (by omega) h3 (by omega) (by omega) (by omega), e3]
      have e4 : mbs (m + 1) x = mbs m (x / 256) ++ [x % 256] := by rw [mbs, if_neg c]
      rw [e4, List.length_append, List.length_singleton, strOfNums_append, append_assoc, Nat.add_assoc]
theorem ref_num (x : Int) (h0 : 0 ≤ x) (h1 : x < 18446744073709551616) (k : Nat) (hk : 20 ≤ k) : lodestoneref05_Num.f k x = some (numP x) := by
  unfold lodestoneref05_Num.f
  rw [ref_num_loop 8 k x _ h0 (by exact h1) h1 (by omega) (by decide), numP, strOfNums_append, append_empty]
  rfl
theorem high_loop (d : Nat) : ∀ (k : Nat) (x m i : Int) (acc : ByteArray), 0 ≤ x → x < 18446744073709551616 → 0 ≤ i → m - i = d → m ≤ 8 → d < k → acc.size + d ≤ 1000 →
    lodestoneref04_High.l0 k x m acc i = some (strOfNums (be d x) ++ acc) := by
  induction d with
  | zero =>
    intro k x m i acc h0 h1 h2 h3 h4 hk ha
    obtain ⟨k, rfl⟩ : ∃ m, k = m + 1 := ⟨k - 1, by omega⟩
    unfold lodestoneref04_High.l0
    rw [if_neg (by omega)]
    show _ = some ((⟨#[]⟩ : ByteArray) ++ acc)
    rw [empty_append]
  | succ d ih =>
    intro k x m i acc h0 h1 h2 h3 h4 hk ha
    obtain ⟨k, rfl⟩ : ∃ m, k = m + 1 := ⟨k - 1, by omega⟩
    unfold lodestoneref04_High.l0
    rw [if_pos (by omega), if_pos (by omega), tm h0, td h0, wu64s (x := x / 256) (by omega) (by omega), w64 (x := i + 1) (by omega) (by omega)]
    simp only [Option.bind_some]
    have hs : (strOfNums [x % 256 % 256]).size = 1 := strOfNums_size _
    rw [if_pos (by omega), ih k _ _ _ _ (by omega) (by omega) (by omega) (by omega) h4 (by omega) (by rw [size_append]; omega), show x % 256 % 256 = x % 256 by omega, ← append_assoc, ← strOfNums_append]
    rfl
theorem high_some (x m : Int) (d : Nat) (hm : m = d) (hd : d ≤ 8) (h0 : 0 ≤ x) (h1 : x < 18446744073709551616) (k : Nat) (hk : 10 ≤ k) : lodestoneref04_High.f k x m = some (strOfNums (be d x)) := by
  unfold lodestoneref04_High.f
  rw [high_loop d k x m 0 _ h0 h1 (by omega) (by omega) (by omega) (by omega) (by show 0 + d ≤ 1000; omega), append_empty]
theorem ref_int (x : Int) (h0 : -9223372036854775808 ≤ x) (h1 : x < 9223372036854775808) (k : Nat) (hk : 20 ≤ k) : lodestoneref05_Int.f k x = some (intP x) := by
  have e1 : IntKind.u64.wrap (IntKind.u64.wrap x + 9223372036854775808) = (x + 9223372036854775808) % 18446744073709551616 := by rw [wu64, wu64]; omega
  unfold lodestoneref05_Int.f
  rw [e1, high_some _ 8 8 rfl (by decide) (by omega) (by omega) k (by omega), Option.bind_some, if_pos (by rw [strOfNums_size, be_length]; decide), intP, strOfNums_append]
  rfl
theorem ref_text_loop (s : ByteArray) (hs : s.size ≤ 1000) : ∀ (d i k : Nat) (acc : ByteArray), i + d = s.size → d + 1 ≤ k → acc.size ≤ 1 + 2 * i →
    lodestoneref05_Text.l0 k s acc (i : Int) = some ((acc ++ (⟨(esc (s.data.toList.drop i)).toArray⟩ : ByteArray)) ++ (⟨#[0, 1]⟩ : ByteArray)) := by
  intro d
  induction d with
  | zero =>
    intro i k acc hi hk ha
    obtain ⟨k, rfl⟩ : ∃ m, k = m + 1 := ⟨k - 1, by omega⟩
    have e1 : s.data.toList.drop i = [] := List.drop_of_length_le (by rw [data_len]; omega)
    have e2 : acc ++ (⟨(esc []).toArray⟩ : ByteArray) = acc := append_empty acc
    rw [e1, e2, lodestoneref05_Text.l0, if_neg (by omega), if_pos (by omega)]
  | succ d ih =>
    intro i k acc hi hk ha
    obtain ⟨k, rfl⟩ : ∃ m, k = m + 1 := ⟨k - 1, by omega⟩
    have hlt : i < s.data.toList.length := by rw [data_len]; omega
    have hw : wrap64 ((i : Int) + 1) = ((i + 1 : Nat) : Int) := by unfold wrap64; omega
    have e1 := List.drop_eq_getElem_cons hlt
    obtain ⟨c, hc⟩ : ∃ c, s.data.toList[i] = c := ⟨_, rfl⟩
    rw [hc] at e1
    have e2 : s.extract i (i + 1) = (⟨#[c]⟩ : ByteArray) := by
      apply eq_of_data
      rw [extract_data, e1, show i + 1 - i = 1 by omega]
      rfl
    have e3 : (⟨#[c]⟩ : ByteArray).size = 1 := rfl
    have e4 : (acc ++ (⟨#[c]⟩ : ByteArray)).size = acc.size + 1 := by rw [ByteArray.size_append]; rfl
    have e5 : (((acc ++ (⟨#[c]⟩ : ByteArray)) ++ (⟨#[255]⟩ : ByteArray))).size = acc.size + 2 := by rw [ByteArray.size_append, e4]; rfl
    have e6 : bt s (i : Int) = (c.toNat : Int) := by
      rw [bt_nat, bytesOf, List.getD_eq_getElem?_getD, List.getElem?_map, List.getElem?_eq_getElem hlt, hc]; rfl
    rw [lodestoneref05_Text.l0, if_pos (by omega), if_pos (by omega), hw, if_pos (by omega), if_pos (by omega), Int.toNat_natCast, Int.toNat_natCast, e2, if_pos (by omega), e6, e1]
    by_cases hz : c = 0
    · subst hz
      rw [if_pos (by decide), if_pos (by omega), ih (i + 1) k _ (by omega) (by omega) (by omega), esc, if_pos rfl]
      congr 2
      apply eq_of_data
      rw [append_data, append_data, append_data, append_data]
      simp
    · have hz2 : ¬ (c.toNat : Int) = 0 := fun h => hz (UInt8.toNat_inj.mp (by show c.toNat = 0; omega))
      rw [if_neg hz2, ih (i + 1) k _ (by omega) (by omega) (by omega), esc, if_neg hz]
      congr 2
      apply eq_of_data
      rw [append_data, append_data, append_data]
      simp
theorem ref_text (s : ByteArray) (hs : s.size ≤ 1000) (k : Nat) (hk : 1100 ≤ k) : lodestoneref05_Text.f k s = some (txtP s) := by
  have h := ref_text_loop s hs s.size 0 k (⟨#[48]⟩ : ByteArray) (by omega) (by omega) (by decide)
  rw [List.drop_zero] at h
  unfold lodestoneref05_Text.f
  refine h.trans ?_
  congr 1
theorem OrderPuts : lodestonelaw05_OrderPuts.Pure := by
  intro a0 a1 a2 h0 h1 h2
  have w0 : 0 ≤ a0 ∧ a0 < 18446744073709551616 := by
    have h : IntKind.u64.min ≤ a0 ∧ a0 ≤ IntKind.u64.max := by simpa [Lit.wf] using h0
    have h3 : (0 : Int) ≤ a0 ∧ a0 ≤ 18446744073709551615 := h
    omega
  have w1 : -9223372036854775808 ≤ a1 ∧ a1 < 9223372036854775808 := by
    have h : IntKind.i64.min ≤ a1 ∧ a1 ≤ IntKind.i64.max := by simpa [Lit.wf] using h1
    have h3 : (-9223372036854775808 : Int) ≤ a1 ∧ a1 ≤ 9223372036854775807 := h
    omega
  have g1 : 0 ≤ mn (a2.size : Int) 200 := by unfold mn; split <;> omega
  have g2 : mn (a2.size : Int) 200 ≤ (a2.size : Int) := by unfold mn; split <;> omega
  have g3 : mn (a2.size : Int) 200 ≤ 200 := by unfold mn; split <;> omega
  obtain ⟨x, hx⟩ : ∃ x, a2.extract 0 ((mn (a2.size : Int) 200) : Int).toNat = x := ⟨_, rfl⟩
  have hxs : x.size ≤ 200 := by rw [← hx, ByteArray.size_extract]; omega
  have haw : lodestonelaw05_awake.f = some true := by decide +kernel
  refine ⟨1100, ?_⟩
  unfold lodestonelaw05_OrderPuts.f
  rw [if_pos g1, if_pos g2, haw, Option.bind_some, if_pos rfl, num_part a0 w0.1 w0.2, Option.bind_some, ref_num a0 w0.1 w0.2 1100 (by decide), Option.bind_some, if_pos rfl, int_part a1 w1.1 w1.2, Option.bind_some, ref_int a1 w1.1 w1.2 1100 (by decide), Option.bind_some, if_pos rfl, hx, text_part x (by omega), Option.bind_some, ref_text x (by omega) 1100 (by decide), Option.bind_some]
  simp
end Go.Proofs.YtlllahlhijikoaaDoor.Pure
