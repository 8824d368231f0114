/- Plain lemmas on numbers of fixed width, bytes and strings: for the plain laws of this seat. No conditions beyond those that each states. -/
import Derived.Test.YtdkepbmpcbnkpaaWMore
import Derived.OpenShut
namespace Go.Proofs.Ytdkepbmpcbnkpaa.XB
open Go.RowKit Go.Proofs.YtdkepbmpcbnkpaaW.PrintWords Go.Proofs.YtdkepbmpcbnkpaaW.PrintMore

/-- as Option.bind_some, but for a proof that simp does not take for 'rfl': else the kernel may compare 'some x' with a call and reckon it out in unary numbers -/
theorem obs {α β : Type} (a : α) (f : α → Option β) : (some a).bind f = f a := Eq.trans (Eq.refl _) (Eq.refl _)
theorem w64 {x : Int} (h0 : -9223372036854775808 ≤ x) (h1 : x < 9223372036854775808) : wrap64 x = x := by unfold wrap64; omega
theorem wu64 (x : Int) : IntKind.u64.wrap x = x % 18446744073709551616 := by simp [IntKind.wrap, IntKind.bits, IntKind.signed]
theorem wu64s {x : Int} (h0 : 0 ≤ x) (h1 : x < 18446744073709551616) : IntKind.u64.wrap x = x := by rw [wu64]; omega
theorem wu32 (x : Int) : IntKind.u32.wrap x = x % 4294967296 := IntKind.wrap_u32 x
theorem wu8 (x : Int) : IntKind.u8.wrap x = x % 256 := IntKind.wrap_u8 x
theorem tm {a b : Int} (ha : 0 ≤ a) : Int.tmod a b = a % b := Int.tmod_eq_emod_of_nonneg ha
theorem td {a b : Int} (ha : 0 ≤ a) : Int.tdiv a b = a / b := Int.tdiv_eq_ediv_of_nonneg ha

/-- the number that a list of bits below N is -/
theorem emod_big (j : Nat) (x : Int) (N : Nat) (hd : N ∣ 2 ^ j) : (((BitVec.ofInt j x).toNat % N : Nat) : Int) = x % (N : Int) := by
  have h : (((BitVec.ofInt j x).toNat : Nat) : Int) = x % ((2 ^ j : Nat) : Int) := by
    rw [BitVec.toNat_ofInt]
    exact Int.toNat_of_nonneg (Int.emod_nonneg _ (by have := Nat.two_pow_pos j; omega))
  rw [Int.natCast_emod, h]
  exact Int.emod_emod_of_dvd _ (Int.natCast_dvd_natCast.mpr hd)
theorem and_mask64 (x : Int) (i : Nat) (hd : 2 ^ i ∣ 2 ^ 64) (hle : 2 ^ i ≤ 4611686018427387904) : Go.bits .and .i64 x ((2 ^ i - 1 : Nat) : Int) = x % ((2 ^ i : Nat) : Int) := by
  have hpos : 0 < 2 ^ i := Nat.two_pow_pos i
  show IntKind.i64.wrap (((BitVec.ofInt 64 x &&& BitVec.ofInt 64 ((2 ^ i - 1 : Nat) : Int)).toNat : Nat) : Int) = _
  rw [BitVec.toNat_and]
  have h1 : (BitVec.ofInt 64 ((2 ^ i - 1 : Nat) : Int)).toNat = 2 ^ i - 1 := by
    rw [BitVec.ofInt_natCast, BitVec.toNat_ofNat]
    exact Nat.mod_eq_of_lt (Nat.lt_of_lt_of_le (Nat.lt_of_lt_of_le (Nat.sub_lt hpos Nat.one_pos) hle) (by decide))
  rw [h1, Nat.and_two_pow_sub_one_eq_mod, emod_big 64 x _ hd, IntKind.wrap_i64]
  have h2 := Int.emod_nonneg x (show ((2 ^ i : Nat) : Int) ≠ 0 by omega)
  have h3 := Int.emod_lt_of_pos x (show (0 : Int) < ((2 ^ i : Nat) : Int) by omega)
  have h4 : ((2 ^ i : Nat) : Int) ≤ 4611686018427387904 := Int.ofNat_le.mpr hle
  generalize x % ((2 ^ i : Nat) : Int) = y at *
  generalize ((2 ^ i : Nat) : Int) = N at *
  omega
theorem bits_u (k : IntKind) (x y : Int) (a b : Nat) (hx : x = a) (hy : y = b) (ha : a < 2 ^ k.bits) (hb : b < 2 ^ k.bits) (hu : k.signed = false) :
    Go.bits .and k x y = ((a &&& b : Nat) : Int) ∧ Go.bits .or k x y = ((a ||| b : Nat) : Int) ∧ Go.bits .xor k x y = ((a ^^^ b : Nat) : Int) := by
  subst hx hy
  have hw : ∀ n : Nat, n < 2 ^ k.bits → k.wrap (n : Int) = n := by
    intro n hn
    simp only [IntKind.wrap, hu]
    have : ((n : Nat) : Int) % ((2 ^ k.bits : Nat) : Int) = n := by
      rw [← Int.natCast_emod, Nat.mod_eq_of_lt hn]
    simpa using this
  have e : ∀ n : Nat, n < 2 ^ k.bits → (BitVec.ofInt k.bits (n : Int)).toNat = n := by
    intro n hn
    rw [BitVec.ofInt_natCast, BitVec.toNat_ofNat, Nat.mod_eq_of_lt hn]
  refine ⟨?_, ?_, ?_⟩
  · show k.wrap (((BitVec.ofInt k.bits a &&& BitVec.ofInt k.bits b).toNat : Nat) : Int) = _
    rw [BitVec.toNat_and, e a ha, e b hb]
    exact hw _ (Nat.and_lt_two_pow _ hb)
  · show k.wrap (((BitVec.ofInt k.bits a ||| BitVec.ofInt k.bits b).toNat : Nat) : Int) = _
    rw [BitVec.toNat_or, e a ha, e b hb]
    exact hw _ (Nat.or_lt_two_pow ha hb)
  · show k.wrap (((BitVec.ofInt k.bits a ^^^ BitVec.ofInt k.bits b).toNat : Nat) : Int) = _
    rw [BitVec.toNat_xor, e a ha, e b hb]
    exact hw _ (Nat.xor_lt_two_pow ha hb)
theorem and_u64 (x : Int) (i : Nat) (h0 : 0 ≤ x) (h1 : x < 18446744073709551616) (hi : i ≤ 64) : Go.bits .and .u64 x ((2 ^ i - 1 : Nat) : Int) = x % ((2 ^ i : Nat) : Int) := by
  obtain ⟨a, rfl⟩ := Int.eq_ofNat_of_zero_le h0
  have hp : 2 ^ i ≤ 2 ^ 64 := Nat.pow_le_pow_right (by decide) hi
  have hpos : 0 < 2 ^ i := Nat.two_pow_pos i
  rw [(bits_u .u64 _ _ a (2 ^ i - 1) rfl rfl (by show a < 18446744073709551616; omega) (Nat.lt_of_lt_of_le (Nat.sub_lt hpos Nat.one_pos) hp) rfl).1, Nat.and_two_pow_sub_one_eq_mod]
  exact Int.natCast_emod _ _
theorem or_u8_128 {x : Int} (h0 : 0 ≤ x) (h1 : x < 256) : Go.bits .or .u8 x 128 = 128 + x % 128 := by
  obtain ⟨a, rfl⟩ := Int.eq_ofNat_of_zero_le h0
  have ha : a < 256 := by omega
  rw [(bits_u .u8 (a : Int) 128 a 128 rfl rfl ha (by decide) rfl).2.1]
  have h : ∀ a : Nat, a < 256 → a ||| 128 = 128 + a % 128 := by decide +kernel
  rw [h a ha]; omega
theorem and_u8_127 {x : Int} (h0 : 0 ≤ x) (h1 : x < 256) : Go.bits .and .u8 x 127 = x % 128 := Go.bits_mask .u8 8 (by decide) Go.wraps_u8 7 (by decide) x h0 h1
theorem and_u8_128 {x : Int} (h0 : 0 ≤ x) (h1 : x < 256) : Go.bits .and .u8 x 128 = if x < 128 then 0 else 128 := by
  obtain ⟨a, rfl⟩ := Int.eq_ofNat_of_zero_le h0
  have ha : a < 256 := by omega
  rw [(bits_u .u8 (a : Int) 128 a 128 rfl rfl ha (by decide) rfl).1]
  have h : ∀ a : Nat, a < 256 → a &&& 128 = if a < 128 then 0 else 128 := by decide +kernel
  rw [h a ha]
  by_cases c : a < 128
  · rw [if_pos c, if_pos (by omega)]; rfl
  · rw [if_neg c, if_neg (by omega)]; rfl

/-! ### strings -/
theorem loop_eq (s : ByteArray) (d : Nat) : ∀ (i : Nat) (r : List UInt8), s.size - i = d → ByteArray.toList.loop s i r = r.reverse ++ s.data.toList.drop i := by
  induction d with
  | zero =>
    intro i r h
    rw [ByteArray.toList.loop]
    rw [if_neg (by omega), List.drop_eq_nil_of_le (by rw [Array.length_toList]; show s.size ≤ i; omega), List.append_nil]
  | succ d ih =>
    intro i r h
    rw [ByteArray.toList.loop, if_pos (by omega), ih (i + 1) _ (by omega)]
    have hi : i < s.data.toList.length := by rw [Array.length_toList]; show i < s.size; omega
    rw [List.drop_eq_getElem_cons hi, List.reverse_cons, List.append_assoc]
    congr 1
    have : s.get! i = s.data.toList[i] := by
      have h2 : i < s.data.size := by simpa using hi
      simp [ByteArray.get!, getElem!_pos s.data i h2]
    rw [this]; rfl
theorem toList_data (s : ByteArray) : s.toList = s.data.toList := by
  rw [ByteArray.toList, loop_eq s _ 0 [] rfl]; rfl
theorem toList_inj {s t : ByteArray} : s.toList = t.toList ↔ s = t := by
  rw [toList_data, toList_data]
  constructor
  · intro h; exact ByteArray.ext (by cases s; cases t; simp_all [Array.toList_inj])
  · rintro rfl; rfl
theorem strOfNums_data (l : List Int) : (strOfNums l).data.toList = l.map fun n => UInt8.ofNat n.toNat := by simp [strOfNums]
theorem strOfNums_toList (l : List Int) : (strOfNums l).toList = l.map fun n => UInt8.ofNat n.toNat := by rw [toList_data, strOfNums_data]
theorem strOfNums_size (l : List Int) : (strOfNums l).size = l.length := by
  show (strOfNums l).data.size = _
  rw [← Array.length_toList, strOfNums_data, List.length_map]
theorem eq_of_data {s t : ByteArray} (h : s.data.toList = t.data.toList) : s = t := ByteArray.ext (Array.toList_inj.mp h)
theorem strOfNums_append (a b : List Int) : strOfNums (a ++ b) = strOfNums a ++ strOfNums b := by
  apply eq_of_data
  rw [ByteArray.data_append, Array.toList_append]
  simp only [strOfNums_data, List.map_append]
theorem strOfNums_bytesOf (s : ByteArray) : strOfNums (bytesOf s) = s := by
  apply eq_of_data
  rw [strOfNums_data, bytesOf, List.map_map]
  conv => rhs; rw [← List.map_id s.data.toList]
  apply List.map_congr_left
  intro x _
  simp
theorem bytesOf_append (a b : ByteArray) : bytesOf (a ++ b) = bytesOf a ++ bytesOf b := by
  simp [bytesOf, ByteArray.data_append]
theorem bytesOf_strOfNums {l : List Int} (h : ∀ x ∈ l, 0 ≤ x ∧ x ≤ 255) : bytesOf (strOfNums l) = l := by
  rw [bytesOf, strOfNums_data, List.map_map]
  conv => rhs; rw [← List.map_id l]
  apply List.map_congr_left
  intro x hx
  obtain ⟨h0, h1⟩ := h x hx
  obtain ⟨a, rfl⟩ := Int.eq_ofNat_of_zero_le h0
  simp; omega
theorem bytesOf_inj {a b : ByteArray} (h : bytesOf a = bytesOf b) : a = b := by rw [← strOfNums_bytesOf a, ← strOfNums_bytesOf b, h]
theorem append_empty (s : ByteArray) : s ++ (⟨#[]⟩ : ByteArray) = s := by apply eq_of_data; simp [ByteArray.data_append]
theorem empty_append (s : ByteArray) : (⟨#[]⟩ : ByteArray) ++ s = s := by apply eq_of_data; simp [ByteArray.data_append]
theorem append_assoc (a b c : ByteArray) : a ++ b ++ c = a ++ (b ++ c) := by apply eq_of_data; simp [ByteArray.data_append]
theorem size_append (a b : ByteArray) : (a ++ b).size = a.size + b.size := ByteArray.size_append
theorem size_extract (s : ByteArray) (i j : Nat) : (s.extract i j).size = min j s.size - i := by simp [ByteArray.size_extract]
theorem data_len (s : ByteArray) : s.data.toList.length = s.size := Array.length_toList
theorem extract_data (s : ByteArray) (i j : Nat) : (s.extract i j).data.toList = (s.data.toList.drop i).take (j - i) := by
  rw [ByteArray.data_extract, Array.toList_extract, List.extract_eq_take_drop]
theorem append_data (a b : ByteArray) : (a ++ b).data.toList = a.data.toList ++ b.data.toList := by rw [ByteArray.data_append, Array.toList_append]
theorem extract_left (a b : ByteArray) : (a ++ b).extract 0 a.size = a := by
  apply eq_of_data
  rw [extract_data, append_data, List.drop_zero, Nat.sub_zero, ← data_len, List.take_left]
theorem extract_right (a b : ByteArray) : (a ++ b).extract a.size (a ++ b).size = b := by
  apply eq_of_data
  rw [extract_data, append_data, ← data_len a, List.drop_left, size_append, ← data_len b, data_len a, Nat.add_sub_cancel_left, List.take_length]
theorem extract_all (s : ByteArray) : s.extract 0 s.size = s := by
  apply eq_of_data
  rw [extract_data, List.drop_zero, Nat.sub_zero, ← data_len, List.take_length]
end Go.Proofs.Ytdkepbmpcbnkpaa.XB
