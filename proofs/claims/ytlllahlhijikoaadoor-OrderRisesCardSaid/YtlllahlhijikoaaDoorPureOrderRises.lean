/- Plain laws of OrderRises: parts rise as what they say, and none begins another one. -/
import Derived.Test.YtlllahlhijikoaaDoorPOrderRisesx1
import Derived.Test.YtlllahlhijikoaaDoorXB
import Derived.Test.YtlllahlhijikoaaDoorXL
import Derived.Sort.Walk0
namespace Go.Proofs.YtlllahlhijikoaaDoor.PureR
open Go.RowKit Go.Proofs.YtlllahlhijikoaaDoor.POrderRises Go.Proofs.YtlllahlhijikoaaDoorW.PrintWords Go.Proofs.YtlllahlhijikoaaDoorW.PrintLast Go.Proofs.YtlllahlhijikoaaDoor.XB Go.Proofs.YtlllahlhijikoaaDoor.XL
set_option linter.unusedVariables false
set_option linter.unusedSimpArgs false
/-- so many bytes, the highest first -/
def be : Nat → Int → List Int
  | 0, _ => []
  | j + 1, n => be j (n / 256) ++ [n % 256]
theorem be_length (j : Nat) : ∀ n, (be j n).length = j := by
  induction j with
  | zero => intro n; rfl
  | succ j ih => intro n; simp [be, ih]
theorem be_range (j : Nat) : ∀ n, ∀ x ∈ be j n, 0 ≤ x ∧ x ≤ 255 := by
  induction j with
  | zero => intro n x hx; exact absurd hx List.not_mem_nil
  | succ j ih =>
    intro n x hx
    rcases List.mem_append.mp hx with h | h
    · exact ih _ x h
    · rcases List.mem_singleton.mp h with rfl
      omega
theorem small_some (x : Int) : code_Small.f x = some (strOfNums (be 4 x)) := by
  unfold code_Small.f
  congr 2
  simp only [be, List.nil_append, List.cons_append]
  rw [show x / 256 / 256 / 256 = x / 16777216 by omega, show x / 256 / 256 = x / 65536 by omega]
theorem big_some (x : Int) (h0 : 0 ≤ x) (h1 : x < 18446744073709551616) : code_Big.f x = some (strOfNums (be 8 x)) := by
  unfold code_Big.f
  rw [small_some _, small_some _]
  simp only [obs]
  rw [if_pos (by rw [strOfNums_size, strOfNums_size, be_length, be_length]; decide), ← strOfNums_append]
  congr 2
  simp only [be, List.nil_append, List.cons_append, List.cons.injEq, and_true]
  refine ⟨?_, ?_, ?_, ?_, ?_, ?_, ?_, ?_⟩ <;> omega
/-- as many bytes as a number has -/
def mbs : Nat → Int → List Int
  | 0, _ => []
  | m + 1, x => if x = 0 then [] else mbs m (x / 256) ++ [x % 256]
theorem mbs_succ (m : Nat) (x : Int) : mbs (m + 1) x = if x = 0 then [] else mbs m (x / 256) ++ [x % 256] := rfl
theorem mbs_zero (m : Nat) : mbs m 0 = [] := by cases m <;> rfl
theorem mbs_length (m : Nat) : ∀ x, (mbs m x).length ≤ m := by
  induction m with
  | zero => intro x; exact Nat.le_refl _
  | succ m ih =>
    intro x
    unfold mbs
    by_cases c : x = 0
    · rw [if_pos c]; exact Nat.zero_le _
    · rw [if_neg c, List.length_append, List.length_singleton]
      have := ih (x / 256)
      omega
theorem mbs_range (m : Nat) : ∀ x, ∀ y ∈ mbs m x, 0 ≤ y ∧ y ≤ 255 := by
  induction m with
  | zero => intro x y hy; exact absurd hy List.not_mem_nil
  | succ m ih =>
    intro x y hy
    unfold mbs at hy
    by_cases c : x = 0
    · rw [if_pos c] at hy; exact absurd hy List.not_mem_nil
    · rw [if_neg c] at hy
      rcases List.mem_append.mp hy with h | h
      · exact ih _ y h
      · rcases List.mem_singleton.mp h with rfl
        omega
theorem trim_be (m : Nat) : ∀ x, 0 ≤ x → x < ((256 ^ m : Nat) : Int) → (be m x).dropWhile (· == 0) = mbs m x := by
  induction m with
  | zero => intro x _ _; rfl
  | succ m ih =>
    intro x h0 h1
    have h2 : x / 256 < ((256 ^ m : Nat) : Int) := by
      rw [Nat.pow_succ] at h1
      generalize 256 ^ m = q at h1
      omega
    have h3 := ih (x / 256) (by omega) h2
    unfold be
    rw [List.dropWhile_append, h3, mbs_succ]
    by_cases c : x = 0
    · subst c
      rw [if_pos rfl]
      have h4 : mbs m (0 / 256) = [] := mbs_zero m
      rw [h4]
      rfl
    · rw [if_neg c]
      cases hm : mbs m (x / 256) with
      | nil =>
        have h5 : x / 256 = 0 := by
          cases m with
          | zero =>
            have : x / 256 < 1 := h2
            omega
          | succ m =>
            rw [mbs_succ] at hm
            by_cases c2 : x / 256 = 0
            · exact c2
            · rw [if_neg c2] at hm
              exact absurd hm (by simp)
        have h6 : (x % 256 == 0) = false := beq_eq_false_iff_ne.mpr (by omega)
        simp [h6]
      | cons a l => simp
theorem trim_nums (l : List Int) (hl : ∀ x ∈ l, 0 ≤ x ∧ x ≤ 255) : Go.Lib.trimLeftB (strOfNums l).data.toList 0 = (l.dropWhile (· == 0)).map fun n => UInt8.ofNat n.toNat := by
  unfold Go.Lib.trimLeftB
  rw [strOfNums_data]
  induction l with
  | nil => rfl
  | cons a l ih =>
    have ha := hl a List.mem_cons_self
    have e : (UInt8.ofNat a.toNat == 0) = (a == 0) := by
      rw [Bool.eq_iff_iff, beq_iff_eq, beq_iff_eq]
      constructor
      · intro h
        have h2 := congrArg UInt8.toNat h
        have h3 : (UInt8.ofNat a.toNat).toNat = a.toNat % 256 := UInt8.toNat_ofNat'
        have h4 : (0 : UInt8).toNat = 0 := rfl
        omega
      · rintro rfl; rfl
    rw [List.map_cons, List.dropWhile_cons, List.dropWhile_cons, e]
    by_cases c : (a == 0) = true
    · rw [if_pos c, if_pos c, ih (fun x hx => hl x (List.mem_cons_of_mem _ hx))]
    · rw [if_neg c, if_neg c, List.map_cons]
/-- a number as a part -/
def numP (x : Int) : ByteArray := strOfNums ([16 + ((mbs 8 x).length : Int)] ++ mbs 8 x)
theorem num_part (x : Int) (h0 : 0 ≤ x) (h1 : x < 18446744073709551616) : order_Num.f x = some (numP x) := by
  have h2 : strings_TrimLeft.f (strOfNums (be 8 x)) (⟨#[0]⟩ : ByteArray) = some (strOfNums (mbs 8 x)) := by
    unfold strings_TrimLeft.f
    rw [if_pos ((toList_data _).trans rfl), trim_nums _ (be_range 8 x), trim_be 8 x h0 (by exact h1)]
    rfl
  have h3 := mbs_length 8 x
  have h4 : (strOfNums (mbs 8 x)).size = (mbs 8 x).length := strOfNums_size _
  unfold order_Num.f
  rw [big_some x h0 h1, Option.bind_some, h2, Option.bind_some, Option.bind_some, h4, w64 (by omega) (by omega), if_pos (by rw [strOfNums_size]; simp only [List.length_singleton]; omega), ← strOfNums_append, numP]
  congr 3
  simp only [List.cons.injEq, and_true]
  omega
/-- the highest bit turned -/
theorem flip63 (y : Int) (h0 : 0 ≤ y) (h1 : y < 18446744073709551616) : Go.bits .xor .u64 y 9223372036854775808 = IntKind.u64.wrap (y + 9223372036854775808) := by
  obtain ⟨n, rfl⟩ : ∃ n : Nat, y = n := ⟨y.toNat, by omega⟩
  have hn : n < 18446744073709551616 := by omega
  have hx : ∀ z : Nat, z < 2 ^ 63 → (2 ^ 63 + z) = (2 ^ 63 ^^^ z) := fun z hz => by
    have h := Nat.two_pow_add_eq_or_of_lt hz 1
    rw [Nat.mul_one] at h
    rw [h]
    apply Nat.eq_of_testBit_eq
    intro i
    rw [Nat.testBit_or, Nat.testBit_xor, Nat.testBit_two_pow]
    by_cases c : 63 = i
    · subst c
      rw [Nat.testBit_lt_two_pow hz]
      rfl
    · simp [c]
  have hb : Go.bits .xor .u64 ((n : Nat) : Int) 9223372036854775808 = (((n ^^^ 2 ^ 63) : Nat) : Int) := by
    show IntKind.u64.wrap (((BitVec.ofInt 64 ((n : Nat) : Int) ^^^ BitVec.ofInt 64 9223372036854775808).toNat : Nat) : Int) = _
    have e1 : (BitVec.ofInt 64 ((n : Nat) : Int)).toNat = n := by simp; omega
    have e2 : (BitVec.ofInt 64 9223372036854775808).toNat = 2 ^ 63 := by decide
    rw [BitVec.toNat_xor, e1, e2, wu64s (by omega)]
    have h2 : n ^^^ 2 ^ 63 < 2 ^ 64 := Nat.xor_lt_two_pow hn (by decide)
    omega
  rw [hb, wu64]
  by_cases c : n < 2 ^ 63
  · have h2 := hx n c
    rw [Nat.xor_comm, ← h2]
    omega
  · obtain ⟨z, rfl⟩ : ∃ z, n = 2 ^ 63 + z := ⟨n - 2 ^ 63, by omega⟩
    have h2 := hx z (by omega)
    rw [h2, Nat.xor_comm, ← Nat.xor_assoc, Nat.xor_self, Nat.zero_xor, ← h2]
    omega
/-- a number with a sign as a part -/
def intP (x : Int) : ByteArray := strOfNums ([32] ++ be 8 ((x + 9223372036854775808) % 18446744073709551616))
theorem int_part (x : Int) (h0 : -9223372036854775808 ≤ x) (h1 : x < 9223372036854775808) : order_Int.f x = some (intP x) := by
  have e1 : IntKind.u64.wrap (IntKind.u64.wrap x + 9223372036854775808) = (x + 9223372036854775808) % 18446744073709551616 := by rw [wu64, wu64]; omega
  unfold order_Int.f
  rw [flip63 _ (by rw [wu64]; omega) (by rw [wu64]; omega), e1, big_some _ (by omega) (by omega), Option.bind_some, if_pos (by rw [strOfNums_size, be_length]; decide), intP, strOfNums_append]
  rfl
/-- a text's bytes, the nothings marked -/
def esc : List UInt8 → List UInt8
  | [] => []
  | c :: l => if c = 0 then 0 :: 255 :: esc l else c :: esc l
theorem idx_cons (c : UInt8) (l : List UInt8) : Go.Lib.index (c :: l) [0] = if c = 0 then 0 else if Go.Lib.index l [0] = -1 then -1 else Go.Lib.index l [0] + 1 := by
  rw [Go.Lib.index]
  by_cases h : c = 0
  · subst h; rfl
  · have h2 : ([0] : List UInt8).isPrefixOf (c :: l) = false := by simp [List.isPrefixOf, Ne.symm h]
    rw [h2, if_neg h]
    by_cases h3 : Go.Lib.index l [0] = -1
    · simp [h3]
    · simp [h3]
theorem idx_ge (l : List UInt8) : -1 ≤ Go.Lib.index l [0] := Go.Lib.index_ge l [0]
theorem replaceK_cons (c : UInt8) (hc : c ≠ 0) (k : Nat) (l : List UInt8) : Go.Lib.replaceK [0] [0, 255] (k + 1) (c :: l) = c :: Go.Lib.replaceK [0] [0, 255] (k + 1) l := by
  rw [Go.Lib.replaceK, Go.Lib.replaceK, idx_cons, if_neg hc]
  by_cases h : Go.Lib.index l [0] = -1
  · rw [if_pos h, h]; rfl
  · have hg := idx_ge l
    obtain ⟨i, hi⟩ : ∃ i : Nat, Go.Lib.index l [0] = i := ⟨(Go.Lib.index l [0]).toNat, by omega⟩
    rw [if_neg h, hi]
    have e1 : ((i : Int) + 1 == -1) = false := beq_eq_false_iff_ne.mpr (by omega)
    have e2 : ((i : Int) == -1) = false := beq_eq_false_iff_ne.mpr (by omega)
    have e3 : ((i : Int) + 1).toNat = i + 1 := by omega
    rw [e1, e2, e3, Int.toNat_natCast]
    have e4 : i + 1 + ([0] : List UInt8).length = (i + ([0] : List UInt8).length) + 1 := by omega
    rw [if_neg (by decide), if_neg (by decide), e4, List.drop_succ_cons, List.take_succ_cons]
    rfl
theorem replaceK_zero (k : Nat) (l : List UInt8) : Go.Lib.replaceK [0] [0, 255] (k + 1) (0 :: l) = 0 :: 255 :: Go.Lib.replaceK [0] [0, 255] k l := by
  rw [Go.Lib.replaceK, idx_cons, if_pos rfl]
  rfl
theorem repl_esc : ∀ (l : List UInt8) (k : Nat), l.count 0 ≤ k → Go.Lib.replaceK [0] [0, 255] k l = esc l
  | [], k, _ => by cases k <;> rfl
  | c :: l, k, h => by
    by_cases hc : c = 0
    · subst hc
      rw [List.count_cons_self] at h
      obtain ⟨k, rfl⟩ : ∃ m, k = m + 1 := ⟨k - 1, by omega⟩
      rw [replaceK_zero, repl_esc l k (by omega), esc, if_pos rfl]
    · have h2 : l.count 0 ≤ k := by rwa [List.count_cons_of_ne hc] at h
      rw [esc, if_neg hc]
      cases k with
      | zero =>
        have h3 := repl_esc l 0 h2
        rw [← h3]; rfl
      | succ k => rw [replaceK_cons c hc, repl_esc l (k + 1) h2]
theorem countFrom_cons (c : UInt8) (hc : c ≠ 0) (f : Nat) (l : List UInt8) : Go.Lib.countFrom [0] (f + 1) (c :: l) = Go.Lib.countFrom [0] (f + 1) l := by
  rw [Go.Lib.countFrom, Go.Lib.countFrom, idx_cons, if_neg hc]
  by_cases h : Go.Lib.index l [0] = -1
  · rw [if_pos h, h]; rfl
  · have hg := idx_ge l
    obtain ⟨i, hi⟩ : ∃ i : Nat, Go.Lib.index l [0] = i := ⟨(Go.Lib.index l [0]).toNat, by omega⟩
    rw [if_neg h, hi]
    have e1 : ((i : Int) + 1 == -1) = false := beq_eq_false_iff_ne.mpr (by omega)
    have e2 : ((i : Int) == -1) = false := beq_eq_false_iff_ne.mpr (by omega)
    have e3 : ((i : Int) + 1).toNat = i + 1 := by omega
    rw [e1, e2, e3, Int.toNat_natCast]
    have e4 : i + 1 + ([0] : List UInt8).length = (i + ([0] : List UInt8).length) + 1 := by omega
    rw [if_neg (by decide), if_neg (by decide), e4, List.drop_succ_cons]
theorem countFrom_zero (f : Nat) (l : List UInt8) : Go.Lib.countFrom [0] (f + 1) (0 :: l) = 1 + Go.Lib.countFrom [0] f l := by
  rw [Go.Lib.countFrom, idx_cons, if_pos rfl]
  rfl
theorem countFrom_eq : ∀ (l : List UInt8) (f : Nat), l.length < f → Go.Lib.countFrom [0] f l = l.count 0
  | [], f, h => by
    obtain ⟨f, rfl⟩ : ∃ m, f = m + 1 := ⟨f - 1, by omega⟩
    rfl
  | c :: l, f, h => by
    rw [List.length_cons] at h
    obtain ⟨f, rfl⟩ : ∃ m, f = m + 1 := ⟨f - 1, by omega⟩
    by_cases hc : c = 0
    · subst hc
      rw [countFrom_zero, countFrom_eq l f (by omega), List.count_cons_self]; omega
    · rw [countFrom_cons c hc, countFrom_eq l (f + 1) (by omega), List.count_cons_of_ne hc]
theorem count_eq (l : List UInt8) : Go.Lib.count l [0] = l.count 0 := countFrom_eq l _ (Nat.lt_succ_self _)
theorem replaceAll_esc (l : List UInt8) : Go.Lib.replaceAll l [0] [0, 255] = esc l := by
  unfold Go.Lib.replaceAll Go.Lib.replace Go.Lib.replaceNum
  rw [if_neg (by decide), if_pos (.inl (by decide)), count_eq]
  exact repl_esc l _ (Nat.le_refl _)
def txtP (s : ByteArray) : ByteArray := ⟨(48 :: esc s.data.toList ++ [0, 1]).toArray⟩
theorem esc_length : ∀ l, (esc l).length ≤ 2 * l.length
  | [] => Nat.le_refl _
  | c :: l => by
    have := esc_length l
    unfold esc
    split <;> simp only [List.length_cons] <;> omega
theorem text_part (s : ByteArray) (hs : s.size ≤ 1000) : order_Text.f s = some (txtP s) := by
  have hc : Go.Lib.countB s (⟨#[0]⟩ : ByteArray) ≤ s.size := by
    show Go.Lib.count s.data.toList [0] ≤ _
    rw [count_eq, ← data_len]
    exact List.count_le_length
  have h1 : strings_ReplaceAll.f s (⟨#[0]⟩ : ByteArray) (⟨#[0, 255]⟩ : ByteArray) = some ⟨(esc s.data.toList).toArray⟩ := by
    unfold strings_ReplaceAll.f
    rw [if_pos ⟨by omega, by decide, by show s.size + Go.Lib.countB s (⟨#[0]⟩ : ByteArray) * 2 ≤ _; omega⟩]
    congr 3
    exact replaceAll_esc s.data.toList
  have h2 : (⟨(esc s.data.toList).toArray⟩ : ByteArray).size = (esc s.data.toList).length := by rw [← data_len]
  have h3 := esc_length s.data.toList
  have h4 : s.data.toList.length = s.size := data_len s
  have h5 : ((⟨#[48]⟩ : ByteArray) ++ (⟨(esc s.data.toList).toArray⟩ : ByteArray)).size = 1 + (esc s.data.toList).length := by rw [ByteArray.size_append, h2]; rfl
  unfold order_Text.f
  rw [h1, Option.bind_some, if_pos (by omega), if_pos (by omega)]
  congr 1
theorem less_iff (x y : ByteArray) : Op.bytesLess x.toList y.toList = decide (x.data.toList < y.data.toList) := by
  rw [toList_data, toList_data, bytesLess_eq]
/-- the order of texts behind one another, of one length -/
theorem snoc_lt : ∀ (l1 l2 : List UInt8) (p q : UInt8), l1.length = l2.length → (l1 ++ [p] < l2 ++ [q] ↔ l1 < l2 ∨ (l1 = l2 ∧ p < q))
  | [], [], p, q, _ => by
    show [p] < [q] ↔ _
    rw [List.cons_lt_cons_iff]
    constructor
    · rintro (h | ⟨_, h⟩)
      · exact .inr ⟨rfl, h⟩
      · exact absurd h (List.lt_irrefl _)
    · rintro (h | ⟨_, h⟩)
      · exact absurd h (List.lt_irrefl _)
      · exact .inl h
  | [], _ :: _, _, _, h => by simp at h
  | _ :: _, [], _, _, h => by simp at h
  | a :: l1, b :: l2, p, q, h => by
    have ih := snoc_lt l1 l2 p q (by simpa using h)
    rw [List.cons_append, List.cons_append, List.cons_lt_cons_iff, List.cons_lt_cons_iff, ih]
    constructor
    · rintro (h1 | ⟨h1, h2 | ⟨h2, h3⟩⟩)
      · exact .inl (.inl h1)
      · exact .inl (.inr ⟨h1, h2⟩)
      · exact .inr ⟨by rw [h1, h2], h3⟩
    · rintro ((h1 | ⟨h1, h2⟩) | ⟨h1, h2⟩)
      · exact .inl h1
      · exact .inr ⟨h1, .inl h2⟩
      · injection h1 with h3 h4
        exact .inr ⟨h3, .inr ⟨h4, h2⟩⟩
def by8 (l : List Int) : List UInt8 := l.map fun n => UInt8.ofNat n.toNat
theorem by8_append (a b : List Int) : by8 (a ++ b) = by8 a ++ by8 b := List.map_append
theorem by8_length (a : List Int) : (by8 a).length = a.length := List.length_map ..
theorem byte_lt (p q : Int) (hp : 0 ≤ p ∧ p ≤ 255) (hq : 0 ≤ q ∧ q ≤ 255) : UInt8.ofNat p.toNat < UInt8.ofNat q.toNat ↔ p < q := by
  have h1 : (UInt8.ofNat p.toNat).toNat = p.toNat % 256 := UInt8.toNat_ofNat'
  have h2 : (UInt8.ofNat q.toNat).toNat = q.toNat % 256 := UInt8.toNat_ofNat'
  rw [UInt8.lt_iff_toNat_lt, h1, h2]
  omega
theorem be_eq (j : Nat) : ∀ x y, 0 ≤ x → 0 ≤ y → x < ((256 ^ j : Nat) : Int) → y < ((256 ^ j : Nat) : Int) → (by8 (be j x) = by8 (be j y) ↔ x = y) := by
  induction j with
  | zero =>
    intro x y h1 h2 h3 h4
    have : x < 1 := h3
    have : y < 1 := h4
    exact ⟨fun _ => by omega, fun _ => rfl⟩
  | succ j ih =>
    intro x y h1 h2 h3 h4
    rw [Nat.pow_succ] at h3 h4
    have ih2 := ih (x / 256) (y / 256) (by omega) (by omega) (by generalize 256 ^ j = q at h3; omega) (by generalize 256 ^ j = q at h4; omega)
    unfold be
    rw [by8_append, by8_append]
    constructor
    · intro h
      have h5 := List.append_inj h (by rw [by8_length, by8_length, be_length, be_length])
      have h6 := ih2.mp h5.1
      have h7 : UInt8.ofNat (x % 256).toNat = UInt8.ofNat (y % 256).toNat := by
        have := h5.2
        simpa [by8] using this
      have h8 := congrArg UInt8.toNat h7
      have h9 : (UInt8.ofNat (x % 256).toNat).toNat = (x % 256).toNat % 256 := UInt8.toNat_ofNat'
      have h10 : (UInt8.ofNat (y % 256).toNat).toNat = (y % 256).toNat % 256 := UInt8.toNat_ofNat'
      omega
    · rintro rfl; rfl
theorem be_lt (j : Nat) : ∀ x y, 0 ≤ x → 0 ≤ y → x < ((256 ^ j : Nat) : Int) → y < ((256 ^ j : Nat) : Int) → (by8 (be j x) < by8 (be j y) ↔ x < y) := by
  induction j with
  | zero =>
    intro x y h1 h2 h3 h4
    have : x < 1 := h3
    have : y < 1 := h4
    constructor
    · intro h
      exact absurd h (List.lt_irrefl _)
    · intro h; omega
  | succ j ih =>
    intro x y h1 h2 h3 h4
    rw [Nat.pow_succ] at h3 h4
    have b3 : x / 256 < ((256 ^ j : Nat) : Int) := by generalize 256 ^ j = q at h3; omega
    have b4 : y / 256 < ((256 ^ j : Nat) : Int) := by generalize 256 ^ j = q at h4; omega
    have ih2 := ih (x / 256) (y / 256) (by omega) (by omega) b3 b4
    have eq2 := be_eq j (x / 256) (y / 256) (by omega) (by omega) b3 b4
    unfold be
    rw [by8_append, by8_append]
    show by8 (be j (x / 256)) ++ [UInt8.ofNat (x % 256).toNat] < by8 (be j (y / 256)) ++ [UInt8.ofNat (y % 256).toNat] ↔ _
    rw [snoc_lt _ _ _ _ (by rw [by8_length, by8_length, be_length, be_length]), ih2, eq2, byte_lt _ _ (by omega) (by omega)]
    omega
theorem be_pad (m : Nat) : ∀ x, 0 ≤ x → x < ((256 ^ m : Nat) : Int) → be (mbs m x).length x = mbs m x ∧ x < ((256 ^ (mbs m x).length : Nat) : Int) ∧ (0 < (mbs m x).length → ((256 ^ ((mbs m x).length - 1) : Nat) : Int) ≤ x) := by
  induction m with
  | zero =>
    intro x h0 h1
    exact ⟨rfl, h1, fun h => absurd h (Nat.lt_irrefl 0)⟩
  | succ m ih =>
    intro x h0 h1
    rw [mbs_succ]
    by_cases c : x = 0
    · subst c
      rw [if_pos rfl]
      exact ⟨rfl, by decide, fun h => absurd h (Nat.lt_irrefl 0)⟩
    · rw [Nat.pow_succ] at h1
      have b3 : x / 256 < ((256 ^ m : Nat) : Int) := by generalize 256 ^ m = q at h1; omega
      obtain ⟨i1, i2, i3⟩ := ih (x / 256) (by omega) b3
      rw [if_neg c, List.length_append, List.length_singleton]
      refine ⟨?_, ?_, fun _ => ?_⟩
      · unfold be; rw [i1]
      · rw [Nat.pow_succ]
        clear i1 i3 b3 h1 ih
        generalize 256 ^ (mbs m (x / 256)).length = q at i2
        omega
      · rw [Nat.add_sub_cancel]
        cases hl : (mbs m (x / 256)).length with
        | zero => show ((256 ^ 0 : Nat) : Int) ≤ x; have : ((256 ^ 0 : Nat) : Int) = 1 := rfl; omega
        | succ n =>
          rw [hl] at i3
          have i4 := i3 (Nat.succ_pos n)
          rw [Nat.add_sub_cancel] at i4
          rw [Nat.pow_succ]
          generalize 256 ^ n = q at i4
          omega
theorem numP_data (x : Int) : (numP x).data.toList = UInt8.ofNat (16 + ((mbs 8 x).length : Int)).toNat :: by8 (mbs 8 x) := by
  rw [numP, strOfNums_data]
  rfl
theorem pow_le {i j : Nat} (h : i ≤ j) : ((256 ^ i : Nat) : Int) ≤ ((256 ^ j : Nat) : Int) := by
  exact_mod_cast Nat.pow_le_pow_right (by decide) h
theorem num_less (a b : Int) (ha : 0 ≤ a ∧ a < 18446744073709551616) (hb : 0 ≤ b ∧ b < 18446744073709551616) : Op.bytesLess (numP a).toList (numP b).toList = decide (a < b) := by
  rw [less_iff, numP_data, numP_data]
  have la := mbs_length 8 a
  have lb := mbs_length 8 b
  obtain ⟨a1, a2, a3⟩ := be_pad 8 a ha.1 (by exact ha.2)
  obtain ⟨b1, b2, b3⟩ := be_pad 8 b hb.1 (by exact hb.2)
  have key : (UInt8.ofNat (16 + ((mbs 8 a).length : Int)).toNat :: by8 (mbs 8 a) < UInt8.ofNat (16 + ((mbs 8 b).length : Int)).toNat :: by8 (mbs 8 b)) ↔ a < b := by
    rw [List.cons_lt_cons_iff, byte_lt _ _ (by omega) (by omega)]
    rcases Nat.lt_trichotomy (mbs 8 a).length (mbs 8 b).length with h | h | h
    · have h2 := pow_le (show (mbs 8 a).length ≤ (mbs 8 b).length - 1 by omega)
      have h3 := b3 (by omega)
      exact ⟨fun _ => by omega, fun _ => .inl (by omega)⟩
    · have h4 := be_lt (mbs 8 b).length a b ha.1 hb.1 (by rw [← h]; exact a2) b2
      rw [b1, ← h, a1] at h4
      rw [h4, h]
      exact ⟨fun hh => by rcases hh with hh | hh; omega; exact hh.2, fun hh => .inr ⟨rfl, hh⟩⟩
    · have h2 := pow_le (show (mbs 8 b).length ≤ (mbs 8 a).length - 1 by omega)
      have h3 := a3 (by omega)
      refine ⟨fun hh => ?_, fun hh => by omega⟩
      rcases hh with hh | ⟨hh, _⟩
      · omega
      · have h5 := congrArg UInt8.toNat hh
        have h6 : (UInt8.ofNat (16 + ((mbs 8 a).length : Int)).toNat).toNat = (16 + ((mbs 8 a).length : Int)).toNat % 256 := UInt8.toNat_ofNat'
        have h7 : (UInt8.ofNat (16 + ((mbs 8 b).length : Int)).toNat).toNat = (16 + ((mbs 8 b).length : Int)).toNat % 256 := UInt8.toNat_ofNat'
        omega
  exact decide_eq_decide.mpr key
theorem num_prefix (a b : Int) (ha : 0 ≤ a ∧ a < 18446744073709551616) (hb : 0 ≤ b ∧ b < 18446744073709551616) (h : (numP a).data.toList <+: (numP b).data.toList) : a = b := by
  rw [numP_data, numP_data] at h
  have la := mbs_length 8 a
  have lb := mbs_length 8 b
  obtain ⟨a1, a2, a3⟩ := be_pad 8 a ha.1 (by exact ha.2)
  obtain ⟨b1, b2, b3⟩ := be_pad 8 b hb.1 (by exact hb.2)
  obtain ⟨h1, h2⟩ := List.cons_prefix_cons.mp h
  have h5 := congrArg UInt8.toNat h1
  have h6 : (UInt8.ofNat (16 + ((mbs 8 a).length : Int)).toNat).toNat = (16 + ((mbs 8 a).length : Int)).toNat % 256 := UInt8.toNat_ofNat'
  have h7 : (UInt8.ofNat (16 + ((mbs 8 b).length : Int)).toNat).toNat = (16 + ((mbs 8 b).length : Int)).toNat % 256 := UInt8.toNat_ofNat'
  have hl : (mbs 8 a).length = (mbs 8 b).length := by omega
  have h8 := h2.eq_of_length (by rw [by8_length, by8_length, hl])
  have h9 := be_eq (mbs 8 b).length a b ha.1 hb.1 (by rw [← hl]; exact a2) b2
  rw [b1, ← hl, a1] at h9
  exact h9.mp h8
theorem int_less (a b : Int) (ha : -9223372036854775808 ≤ a ∧ a < 9223372036854775808) (hb : -9223372036854775808 ≤ b ∧ b < 9223372036854775808) : Op.bytesLess (intP a).toList (intP b).toList = decide (a < b) := by
  have hd : ∀ x : Int, (intP x).data.toList = 32 :: by8 (be 8 ((x + 9223372036854775808) % 18446744073709551616)) := fun x => by
    rw [intP, strOfNums_data]; rfl
  rw [less_iff, hd, hd]
  refine decide_eq_decide.mpr ?_
  rw [List.cons_lt_cons_iff, be_lt 8 _ _ (by omega) (by omega) (show _ < (18446744073709551616 : Int) by omega) (show _ < (18446744073709551616 : Int) by omega)]
  constructor
  · rintro (h | ⟨_, h⟩)
    · exact absurd h (by decide)
    · omega
  · intro h; exact .inr ⟨rfl, by omega⟩
theorem esc_lt : ∀ x y : List UInt8, (esc x ++ [0, 1] < esc y ++ [0, 1] ↔ x < y)
  | [], [] => by
    constructor
    · intro h; exact absurd h (List.lt_irrefl _)
    · intro h; exact absurd h (List.lt_irrefl _)
  | [], d :: y => by
    have h1 : ([] : List UInt8) < d :: y := List.nil_lt_cons ..
    refine ⟨fun _ => h1, fun _ => ?_⟩
    unfold esc
    by_cases hd : d = 0
    · rw [if_pos hd]
      show (0 : UInt8) :: 1 :: [] < 0 :: 255 :: (esc y ++ [0, 1])
      rw [List.cons_lt_cons_iff, List.cons_lt_cons_iff]
      exact .inr ⟨rfl, .inl (by decide)⟩
    · rw [if_neg hd]
      show (0 : UInt8) :: 1 :: [] < d :: (esc y ++ [0, 1])
      rw [List.cons_lt_cons_iff]
      refine .inl (UInt8.lt_iff_toNat_lt.mpr ?_)
      have : d.toNat ≠ 0 := fun h => hd (UInt8.toNat_inj.mp h)
      show 0 < d.toNat
      omega
  | c :: x, [] => by
    refine ⟨fun h => ?_, fun h => absurd h (List.not_lt_nil _)⟩
    exfalso
    unfold esc at h
    by_cases hc : c = 0
    · rw [if_pos hc] at h
      have h2 : (0 : UInt8) :: 255 :: (esc x ++ [0, 1]) < 0 :: 1 :: [] := h
      rw [List.cons_lt_cons_iff, List.cons_lt_cons_iff] at h2
      rcases h2 with h2 | ⟨_, h2 | ⟨h2, _⟩⟩
      · exact absurd h2 (by decide)
      · exact absurd h2 (by decide)
      · exact absurd h2 (by decide)
    · rw [if_neg hc] at h
      have h2 : c :: (esc x ++ [0, 1]) < 0 :: 1 :: [] := h
      rw [List.cons_lt_cons_iff] at h2
      rcases h2 with h2 | ⟨h2, _⟩
      · have h3 := UInt8.lt_iff_toNat_lt.mp h2
        have h4 : (0 : UInt8).toNat = 0 := rfl
        omega
      · exact hc h2
  | c :: x, d :: y => by
    have ih := esc_lt x y
    rw [List.cons_lt_cons_iff]
    unfold esc
    by_cases hc : c = 0
    · by_cases hd : d = 0
      · rw [if_pos hc, if_pos hd]
        show (0 : UInt8) :: 255 :: (esc x ++ [0, 1]) < 0 :: 255 :: (esc y ++ [0, 1]) ↔ _
        rw [List.cons_lt_cons_iff, List.cons_lt_cons_iff, ih]
        subst hc; subst hd
        constructor
        · rintro (h | ⟨_, h | ⟨_, h⟩⟩)
          · exact absurd h (by decide)
          · exact absurd h (by decide)
          · exact .inr ⟨rfl, h⟩
        · rintro (h | ⟨_, h⟩)
          · exact absurd h (by decide)
          · exact .inr ⟨rfl, .inr ⟨rfl, h⟩⟩
      · rw [if_pos hc, if_neg hd]
        subst hc
        have h1 : (0 : UInt8) < d := UInt8.lt_iff_toNat_lt.mpr (by
          have : d.toNat ≠ 0 := fun h => hd (UInt8.toNat_inj.mp h)
          show 0 < d.toNat
          omega)
        show (0 : UInt8) :: 255 :: (esc x ++ [0, 1]) < d :: (esc y ++ [0, 1]) ↔ _
        rw [List.cons_lt_cons_iff]
        exact ⟨fun _ => .inl h1, fun _ => .inl h1⟩
    · have h0 : ¬ c < (0 : UInt8) := fun h => by
        have h3 := UInt8.lt_iff_toNat_lt.mp h
        have h4 : (0 : UInt8).toNat = 0 := rfl
        omega
      by_cases hd : d = 0
      · rw [if_neg hc, if_pos hd]
        subst hd
        show c :: (esc x ++ [0, 1]) < 0 :: 255 :: (esc y ++ [0, 1]) ↔ _
        rw [List.cons_lt_cons_iff]
        constructor
        · rintro (h | ⟨h, _⟩)
          · exact absurd h h0
          · exact absurd h hc
        · rintro (h | ⟨h, _⟩)
          · exact absurd h h0
          · exact absurd h hc
      · rw [if_neg hc, if_neg hd]
        show c :: (esc x ++ [0, 1]) < d :: (esc y ++ [0, 1]) ↔ _
        rw [List.cons_lt_cons_iff, ih]
theorem esc_prefix : ∀ x y : List UInt8, esc x ++ [0, 1] <+: esc y ++ [0, 1] → x = y
  | [], [], _ => rfl
  | [], d :: y, h => by
    exfalso
    unfold esc at h
    by_cases hd : d = 0
    · rw [if_pos hd] at h
      have h2 : (0 : UInt8) :: 1 :: [] <+: 0 :: 255 :: (esc y ++ [0, 1]) := h
      have h3 := (List.cons_prefix_cons.mp (List.cons_prefix_cons.mp h2).2).1
      exact absurd h3 (by decide)
    · rw [if_neg hd] at h
      have h2 : (0 : UInt8) :: 1 :: [] <+: d :: (esc y ++ [0, 1]) := h
      exact hd (List.cons_prefix_cons.mp h2).1.symm
  | c :: x, [], h => by
    exfalso
    unfold esc at h
    by_cases hc : c = 0
    · rw [if_pos hc] at h
      have h2 : (0 : UInt8) :: 255 :: (esc x ++ [0, 1]) <+: 0 :: 1 :: [] := h
      have h3 := (List.cons_prefix_cons.mp (List.cons_prefix_cons.mp h2).2).1
      exact absurd h3 (by decide)
    · rw [if_neg hc] at h
      have h2 : c :: (esc x ++ [0, 1]) <+: 0 :: 1 :: [] := h
      exact hc (List.cons_prefix_cons.mp h2).1
  | c :: x, d :: y, h => by
    have ih := esc_prefix x y
    unfold esc at h
    by_cases hc : c = 0
    · by_cases hd : d = 0
      · rw [if_pos hc, if_pos hd] at h
        have h2 : (0 : UInt8) :: 255 :: (esc x ++ [0, 1]) <+: 0 :: 255 :: (esc y ++ [0, 1]) := h
        rw [hc, hd, ih (List.cons_prefix_cons.mp (List.cons_prefix_cons.mp h2).2).2]
      · rw [if_pos hc, if_neg hd] at h
        have h2 : (0 : UInt8) :: 255 :: (esc x ++ [0, 1]) <+: d :: (esc y ++ [0, 1]) := h
        exact absurd (List.cons_prefix_cons.mp h2).1.symm hd
    · by_cases hd : d = 0
      · rw [if_neg hc, if_pos hd] at h
        have h2 : c :: (esc x ++ [0, 1]) <+: 0 :: 255 :: (esc y ++ [0, 1]) := h
        exact absurd (List.cons_prefix_cons.mp h2).1 hc
      · rw [if_neg hc, if_neg hd] at h
        have h2 : c :: (esc x ++ [0, 1]) <+: d :: (esc y ++ [0, 1]) := h
        have h3 := List.cons_prefix_cons.mp h2
        rw [h3.1, ih h3.2]
theorem txtP_data (s : ByteArray) : (txtP s).data.toList = 48 :: (esc s.data.toList ++ [0, 1]) := rfl
theorem text_less (x y : ByteArray) : Op.bytesLess (txtP x).toList (txtP y).toList = Op.bytesLess x.toList y.toList := by
  rw [less_iff, less_iff, txtP_data, txtP_data]
  refine decide_eq_decide.mpr ?_
  rw [List.cons_lt_cons_iff, esc_lt]
  exact ⟨fun h => by rcases h with h | h; exact absurd h (by decide); exact h.2, fun h => .inr ⟨rfl, h⟩⟩
theorem text_prefix (x y : ByteArray) (h : (txtP x).data.toList <+: (txtP y).data.toList) : x = y := by
  rw [txtP_data, txtP_data] at h
  exact eq_of_data (esc_prefix _ _ (List.cons_prefix_cons.mp h).2)
/-- does a text begin another one? -/
theorem begins_not (a b : ByteArray) (h : ¬ a.data.toList <+: b.data.toList) : lodestonelaw05_begins.f a b = some false := by
  unfold lodestonelaw05_begins.f
  by_cases c : (a.size : Int) ≤ (b.size : Int)
  · rw [if_pos c, if_pos (by omega), Int.toNat_natCast]
    simp only [Option.some.injEq, beq_eq_false_iff_ne]
    intro e
    apply h
    rw [toList_data, toList_data, extract_data, List.drop_zero, Nat.sub_zero] at e
    rw [← e]
    exact List.take_prefix _ _
  · rw [if_neg c]
end Go.Proofs.YtlllahlhijikoaaDoor.PureR
