/- The plain law of RecordKeys: keys are the document's. -/
import Derived.Test.YtgghakjleihgaaaDoorPRecordKeysx10
import Derived.Test.YtgghakjleihgaaaDoorXB
import Derived.Test.YtgghakjleihgaaaDoorXL
namespace Go.Proofs.YtgghakjleihgaaaDoor.Pure
open Go.RowKit Go.Proofs.YtgghakjleihgaaaDoor.PRecordKeys Go.Proofs.YtgghakjleihgaaaDoorW.PrintWords Go.Proofs.YtgghakjleihgaaaDoorW.PrintLast Go.Proofs.YtgghakjleihgaaaDoor.XB Go.Proofs.YtgghakjleihgaaaDoor.XL
set_option linter.unusedVariables false
set_option linter.unusedSimpArgs false
/-- so many bytes, the highest first -/
def be : Nat → Int → List Int
  | 0, _ => []
  | j + 1, n => be j (n / 256) ++ [n % 256]
theorem be_length (j : Nat) : ∀ n, (be j n).length = j := by
  induction j with
  | zero => intro n; rfl
  | succ j ih => intro n; simp [be, ih]
theorem be_range (j : Nat) : ∀ n, ∀ x ∈ be j n, 0 ≤ x ∧ x ≤ 255 := by
  induction j with
  | zero => intro n x hx; exact absurd hx List.not_mem_nil
  | succ j ih =>
    intro n x hx
    rcases List.mem_append.mp hx with h | h
    · exact ih _ x h
    · rcases List.mem_singleton.mp h with rfl
      omega
theorem small_some (x : Int) : code_Small.f x = some (strOfNums (be 4 x)) := by
  unfold code_Small.f
  congr 2
  simp only [be, List.nil_append, List.cons_append]
  rw [show x / 256 / 256 / 256 = x / 16777216 by omega, show x / 256 / 256 = x / 65536 by omega]
theorem big_some (x : Int) (h0 : 0 ≤ x) (h1 : x < 18446744073709551616) : code_Big.f x = some (strOfNums (be 8 x)) := by
  unfold code_Big.f
  rw [small_some _, small_some _]
  simp only [obs]
  rw [if_pos (by rw [strOfNums_size, strOfNums_size, be_length, be_length]; decide), ← strOfNums_append]
  congr 2
  simp only [be, List.nil_append, List.cons_append, List.cons.injEq, and_true]
  refine ⟨?_, ?_, ?_, ?_, ?_, ?_, ?_, ?_⟩ <;> omega
/-- as many bytes as a number has -/
def mbs : Nat → Int → List Int
  | 0, _ => []
  | m + 1, x => if x = 0 then [] else mbs m (x / 256) ++ [x % 256]
theorem mbs_succ (m : Nat) (x : Int) : mbs (m + 1) x = if x = 0 then [] else mbs m (x / 256) ++ [x % 256] := rfl
theorem mbs_zero (m : Nat) : mbs m 0 = [] := by cases m <;> rfl
theorem mbs_length (m : Nat) : ∀ x, (mbs m x).length ≤ m := by
  induction m with
  | zero => intro x; exact Nat.le_refl _
  | succ m ih =>
    intro x
    unfold mbs
    by_cases c : x = 0
    · rw [if_pos c]; exact Nat.zero_le _
    · rw [if_neg c, List.length_append, List.length_singleton]
      have := ih (x / 256)
      omega
theorem mbs_range (m : Nat) : ∀ x, ∀ y ∈ mbs m x, 0 ≤ y ∧ y ≤ 255 := by
  induction m with
  | zero => intro x y hy; exact absurd hy List.not_mem_nil
  | succ m ih =>
    intro x y hy
    unfold mbs at hy
    by_cases c : x = 0
    · rw [if_pos c] at hy; exact absurd hy List.not_mem_nil
    · rw [if_neg c] at hy
      rcases List.mem_append.mp hy with h | h
      · exact ih _ y h
      · rcases List.mem_singleton.mp h with rfl
        omega
theorem trim_be (m : Nat) : ∀ x, 0 ≤ x → x < ((256 ^ m : Nat) : Int) → (be m x).dropWhile (· == 0) = mbs m x := by
  induction m with
  | zero => intro x _ _; rfl
  | succ m ih =>
    intro x h0 h1
    have h2 : x / 256 < ((256 ^ m : Nat) : Int) := by
      rw [Nat.pow_succ] at h1
      generalize 256 ^ m = q at h1
      omega
    have h3 := ih (x / 256) (by omega) h2
    unfold be
    rw [List.dropWhile_append, h3, mbs_succ]
    by_cases c : x = 0
    · subst c
      rw [if_pos rfl]
      have h4 : mbs m (0 / 256) = [] := mbs_zero m
      rw [h4]
      rfl
    · rw [if_neg c]
      cases hm : mbs m (x / 256) with
      | nil =>
        have h5 : x / 256 = 0 := by
          cases m with
          | zero =>
            have : x / 256 < 1 := h2
            omega
          | succ m =>
            rw [mbs_succ] at hm
            by_cases c2 : x / 256 = 0
            · exact c2
            · rw [if_neg c2] at hm
              exact absurd hm (by simp)
        have h6 : (x % 256 == 0) = false := beq_eq_false_iff_ne.mpr (by omega)
        simp [h6]
      | cons a l => simp
theorem trim_nums (l : List Int) (hl : ∀ x ∈ l, 0 ≤ x ∧ x ≤ 255) : Go.Lib.trimLeftB (strOfNums l).data.toList 0 = (l.dropWhile (· == 0)).map fun n => UInt8.ofNat n.toNat := by
  unfold Go.Lib.trimLeftB
  rw [strOfNums_data]
  induction l with
  | nil => rfl
  | cons a l ih =>
    have ha := hl a List.mem_cons_self
    have e : (UInt8.ofNat a.toNat == 0) = (a == 0) := by
      rw [Bool.eq_iff_iff, beq_iff_eq, beq_iff_eq]
      constructor
      · intro h
        have h2 := congrArg UInt8.toNat h
        have h3 : (UInt8.ofNat a.toNat).toNat = a.toNat % 256 := UInt8.toNat_ofNat'
        have h4 : (0 : UInt8).toNat = 0 := rfl
        omega
      · rintro rfl; rfl
    rw [List.map_cons, List.dropWhile_cons, List.dropWhile_cons, e]
    by_cases c : (a == 0) = true
    · rw [if_pos c, if_pos c, ih (fun x hx => hl x (List.mem_cons_of_mem _ hx))]
    · rw [if_neg c, if_neg c, List.map_cons]
/-- a number as a part -/
def numP (x : Int) : ByteArray := strOfNums ([16 + ((mbs 8 x).length : Int)] ++ mbs 8 x)
theorem num_part (x : Int) (h0 : 0 ≤ x) (h1 : x < 18446744073709551616) : order_Num.f x = some (numP x) := by
  have h2 : strings_TrimLeft.f (strOfNums (be 8 x)) (⟨#[0]⟩ : ByteArray) = some (strOfNums (mbs 8 x)) := by
    unfold strings_TrimLeft.f
    rw [if_pos ((toList_data _).trans rfl), trim_nums _ (be_range 8 x), trim_be 8 x h0 (by exact h1)]
    rfl
  have h3 := mbs_length 8 x
  have h4 : (strOfNums (mbs 8 x)).size = (mbs 8 x).length := strOfNums_size _
  unfold order_Num.f
  rw [big_some x h0 h1, Option.bind_some, h2, Option.bind_some, Option.bind_some, h4, w64 (by omega) (by omega), if_pos (by rw [strOfNums_size]; simp only [List.length_singleton]; omega), ← strOfNums_append, numP]
  congr 3
  simp only [List.cons.injEq, and_true]
  omega
theorem ref_num_loop : ∀ (m k : Nat) (x : Int) (acc : ByteArray), 0 ≤ x → x < ((256 ^ m : Nat) : Int) → x < 18446744073709551616 → m + 1 ≤ k → m + acc.size ≤ 100 →
    lodestoneref05_Num.l0 k x acc = some (strOfNums [16 + (((mbs m x).length + acc.size : Nat) : Int)] ++ (strOfNums (mbs m x) ++ acc)) := by
  intro m
  induction m with
  | zero =>
    intro k x acc h0 h1 h2 hk ha
    obtain ⟨k, rfl⟩ : ∃ m, k = m + 1 := ⟨k - 1, by omega⟩
    have hx : x = 0 := by have : x < 1 := h1; omega
    subst hx
    have e0 : strOfNums (mbs 0 0) ++ acc = acc := empty_append acc
    rw [e0, lodestoneref05_Num.l0, if_neg (by decide), Option.bind_some, if_pos (by rw [strOfNums_size]; simp only [List.length_singleton]; omega), w64 (by omega) (by omega)]
    congr 4
    show (16 + (acc.size : Int)) % 256 = 16 + ((0 + acc.size : Nat) : Int)
    omega
  | succ m ih =>
    intro k x acc h0 h1 h2 hk ha
    obtain ⟨k, rfl⟩ : ∃ m, k = m + 1 := ⟨k - 1, by omega⟩
    by_cases c : x = 0
    · subst c
      have e0 : strOfNums (mbs (m + 1) 0) ++ acc = acc := by rw [mbs_zero]; exact empty_append acc
      rw [e0, mbs_zero, lodestoneref05_Num.l0, if_neg (by decide), Option.bind_some, if_pos (by rw [strOfNums_size]; simp only [List.length_singleton]; omega), w64 (by omega) (by omega)]
      congr 4
      show (16 + (acc.size : Int)) % 256 = 16 + ((0 + acc.size : Nat) : Int)
      omega
    · have h3 : x / 256 < ((256 ^ m : Nat) : Int) := by
        rw [Nat.pow_succ] at h1
        generalize 256 ^ m = q at h1
        omega
      have hs : (strOfNums [Int.tmod x 256 % 256]).size = 1 := strOfNums_size _
      have e1 : Int.tmod x 256 % 256 = x % 256 := by rw [Int.tmod_eq_emod_of_nonneg h0]; omega
      have e2 : Int.tdiv x 256 = x / 256 := Int.tdiv_eq_ediv_of_nonneg h0
      have e3 : (strOfNums [x % 256] ++ acc).size = 1 + acc.size := by rw [ByteArray.size_append]; rw [e1] at hs; omega
      rw [lodestoneref05_Num.l0, if_pos (by omega), Option.bind_some, if_pos (by omega), e1, e2, wu64s (by omega) (by omega), ih k (x / 256) _ (by omega) h3 (by omega) (by omega) (by omega), e3]
      have e4 : mbs (m + 1) x = mbs m (x / 256) ++ [x % 256] := by rw [mbs, if_neg c]
      rw [e4, List.length_append, List.length_singleton, strOfNums_append, append_assoc, Nat.add_assoc]
theorem ref_num (x : Int) (h0 : 0 ≤ x) (h1 : x < 18446744073709551616) (k : Nat) (hk : 20 ≤ k) : lodestoneref05_Num.f k x = some (numP x) := by
  unfold lodestoneref05_Num.f
  rw [ref_num_loop 8 k x _ h0 (by exact h1) h1 (by omega) (by decide), numP, strOfNums_append, append_empty]
  rfl
theorem numP_size (x : Int) : (numP x).size ≤ 9 := by
  have := mbs_length 8 x
  rw [numP, strOfNums_size, List.length_append, List.length_singleton]
  omega
theorem key_some (b : Bool) (x : Int) (h0 : 0 ≤ x) (h1 : x < 18446744073709551616) : record_Key.f b x = some ((if b = true then (⟨#[101]⟩ : ByteArray) else ⟨#[110]⟩) ++ numP x) := by
  have hs := numP_size x
  unfold record_Key.f
  rw [num_part x h0 h1]
  cases b
  · rw [if_neg (by decide), if_neg (by decide), Option.bind_some, if_pos (by omega)]
  · rw [if_pos rfl, if_pos rfl, Option.bind_some, if_pos (by omega)]
theorem ref_key (b : Bool) (x : Int) (h0 : 0 ≤ x) (h1 : x < 18446744073709551616) (k : Nat) (hk : 20 ≤ k) : lodestoneref26_Key.f k b x = some ((if b = true then (⟨#[101]⟩ : ByteArray) else ⟨#[110]⟩) ++ numP x) := by
  have hs := numP_size x
  unfold lodestoneref26_Key.f
  rw [ref_num x h0 h1 k hk]
  cases b
  · rw [if_neg (by decide), if_neg (by decide), Option.bind_some, if_pos (by omega)]
  · rw [if_pos rfl, if_pos rfl, Option.bind_some, if_pos (by omega)]
def hd (b : Bool) : ByteArray := if b = true then ⟨#[111]⟩ else ⟨#[105]⟩
theorem hd_size (b : Bool) : (hd b).size = 1 := by cases b <;> rfl
theorem beside_low (b : Bool) (x t e : Int) (h0 : 0 ≤ x) (h1 : x < 18446744073709551616) (ht : t < 0) (k : Nat) : record_Beside.f (k + 1) b x t e = some (hd b ++ numP x) := by
  have hs := numP_size x
  have h2 : ∀ s : ByteArray, s.size = 1 → record_Beside.j0 (k + 1) x t e s = some (s ++ numP x) := fun s hz => by
    rw [record_Beside.j0, num_part x h0 h1, Option.bind_some, if_pos (by omega), if_pos ht]
  unfold record_Beside.f hd
  cases b
  · rw [if_neg (by decide), if_neg (by decide), h2 _ rfl]
  · rw [if_pos rfl, if_pos rfl, h2 _ rfl]
theorem beside_zero (b : Bool) (x t : Int) (h0 : 0 ≤ x) (h1 : x < 18446744073709551616) (ht : 0 ≤ t) (ht1 : t < 64) (k : Nat) : record_Beside.f (k + 1) b x t 0 = some (hd b ++ numP x ++ numP t) := by
  have hs := numP_size x
  have hs2 := numP_size t
  have h2 : ∀ s : ByteArray, s.size = 1 → record_Beside.j0 (k + 1) x t 0 s = some (s ++ numP x ++ numP t) := fun s hz => by
    rw [record_Beside.j0, num_part x h0 h1, Option.bind_some, if_pos (by omega), if_neg (by omega), wu64s ht (by omega), num_part t ht (by omega), Option.bind_some, if_pos (by rw [ByteArray.size_append]; omega), if_pos rfl]
  unfold record_Beside.f hd
  cases b
  · rw [if_neg (by decide), if_neg (by decide), h2 _ rfl]
  · rw [if_pos rfl, if_pos rfl, h2 _ rfl]
theorem beside_all (b : Bool) (x t e : Int) (h0 : 0 ≤ x) (h1 : x < 18446744073709551616) (ht : 0 ≤ t) (ht1 : t < 64) (he : 0 < e) (he1 : e < 18446744073709551616) (k : Nat) : record_Beside.f (k + 1) b x t e = some (hd b ++ numP x ++ numP t ++ numP e) := by
  have hs := numP_size x
  have hs2 := numP_size t
  have hs3 := numP_size e
  have h2 : ∀ s : ByteArray, s.size = 1 → record_Beside.j0 (k + 1) x t e s = some (s ++ numP x ++ numP t ++ numP e) := fun s hz => by
    rw [record_Beside.j0, num_part x h0 h1, Option.bind_some, if_pos (by omega), if_neg (by omega), wu64s ht (by omega), num_part t ht (by omega), Option.bind_some, if_pos (by rw [ByteArray.size_append]; omega), if_neg (by omega), num_part e (by omega) he1, Option.bind_some, if_pos (by rw [ByteArray.size_append, ByteArray.size_append]; omega)]
  unfold record_Beside.f hd
  cases b
  · rw [if_neg (by decide), if_neg (by decide), h2 _ rfl]
  · rw [if_pos rfl, if_pos rfl, h2 _ rfl]
theorem awake_ok : lodestonelaw26_awake.f 30 = some true := by decide +kernel
theorem law_j (b : Bool) (i0 i1 i2 t e : Int) (h0 : 0 ≤ i0 ∧ i0 < 18446744073709551616) (h2 : 0 ≤ i2 ∧ i2 < 18446744073709551616) (he : 0 < e ∧ e < 18446744073709551616) (kk : Int) (hk : Go.bits .and .i64 t 63 = kk) (hk0 : 0 ≤ kk ∧ kk < 64) :
    lodestonelaw26_RecordKeys.j0 31 b t (hd b) e i0 i1 i2 = some true := by
  have hs := numP_size i0
  have hs2 := numP_size kk
  have hs3 := numP_size e
  have hz := hd_size b
  rw [lodestonelaw26_RecordKeys.j0, hk, ref_num i0 h0.1 h0.2 30 (by decide), Option.bind_some, if_pos (by omega), awake_ok, Option.bind_some, if_pos rfl, key_some b i2 h2.1 h2.2, Option.bind_some, ref_key b i2 h2.1 h2.2 30 (by decide), Option.bind_some, if_pos rfl,
    w64 (by omega) (by omega), beside_low b i0 (-1 - kk) e h0.1 h0.2 (by omega) 29, Option.bind_some, if_pos rfl, beside_zero b i0 kk h0.1 h0.2 hk0.1 hk0.2 29, Option.bind_some, wu64s hk0.1 (by omega), ref_num kk hk0.1 (by omega) 30 (by decide), Option.bind_some,
    if_pos (by rw [ByteArray.size_append]; omega), if_pos rfl, beside_all b i0 kk e h0.1 h0.2 hk0.1 hk0.2 he.1 he.2 29, Option.bind_some, Option.bind_some, if_pos (by rw [ByteArray.size_append]; omega), ref_num e (by omega) he.2 30 (by decide), Option.bind_some, if_pos (by rw [ByteArray.size_append, ByteArray.size_append]; omega)]
  simp
theorem or_one (x : Int) (h0 : 0 ≤ x) (h1 : x < 18446744073709551616) : 0 < Go.bits .or .u64 x 1 ∧ Go.bits .or .u64 x 1 < 18446744073709551616 := by
  obtain ⟨a, rfl⟩ : ∃ a : Nat, (a : Int) = x := ⟨x.toNat, by omega⟩
  obtain ⟨-, e, -⟩ := bits_u .u64 (a : Int) 1 a 1 rfl rfl (show a < 2 ^ 64 by omega) (by decide) rfl
  rw [e]
  have l1 : 1 ≤ a ||| 1 := Nat.right_le_or
  have l2 : a ||| 1 < 2 ^ 64 := Nat.or_lt_two_pow (by omega) (by decide)
  omega
theorem law (b : Bool) (i0 i1 i2 t : Int) (h0 : 0 ≤ i0 ∧ i0 < 18446744073709551616) (h1 : 0 ≤ i1 ∧ i1 < 18446744073709551616) (h2 : 0 ≤ i2 ∧ i2 < 18446744073709551616) :
    lodestonelaw26_RecordKeys.f 31 b i0 i1 i2 t = some true := by
  have hk : Go.bits .and .i64 t 63 = t % 64 := and_mask64 t 6 (by decide) (by decide)
  have h := law_j b i0 i1 i2 t _ h0 h2 (or_one i1 h1.1 h1.2) _ hk (by omega)
  unfold lodestonelaw26_RecordKeys.f
  cases b
  · rw [if_neg (by decide)]; exact h
  · rw [if_pos rfl]; exact h
theorem u64_of {x : Int} (h : (Lit.int .u64 x).wf = true) : 0 ≤ x ∧ x < 18446744073709551616 := by
  have h2 : IntKind.u64.min ≤ x ∧ x ≤ IntKind.u64.max := by simpa [Lit.wf] using h
  have h3 : (0 : Int) ≤ x ∧ x ≤ 18446744073709551615 := h2
  omega
end Go.Proofs.YtgghakjleihgaaaDoor.Pure
