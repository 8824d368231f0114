import Derived.Test.YtgbhjkkfleeodaaDoorPureBlkA
import Derived.Test.YtgbhjkkfleeodaaDoorPBlockPlacesx1
namespace Go.Proofs.YtgbhjkkfleeodaaDoor.PureBlk
open Go.RowKit Go.Proofs.YtgbhjkkfleeodaaDoor.PBlockPuts Go.Proofs.YtgbhjkkfleeodaaDoorW.PrintWords Go.Proofs.YtgbhjkkfleeodaaDoorW.PrintLast Go.Proofs.YtgbhjkkfleeodaaDoor.XB Go.Proofs.YtgbhjkkfleeodaaDoor.XL Go.Proofs.YtgbhjkkfleeodaaDoor.Hm
open Go.Proofs.YtgbhjkkfleeodaaDoor.Cha hiding xor8
set_option linter.unusedVariables false
set_option linter.unusedSimpArgs false
attribute [local irreducible] tk blk pln non zs
theorem or_gen (a b : Int) (ha : 0 ≤ a ∧ a ≤ 255) (hb : 0 ≤ b ∧ b ≤ 255) : Go.bits .or .i64 (wrap64 ((wrap64 a) * 256)) (wrap64 b) = a * 256 + b := by
  rw [w64 (x := a) (by omega) (by omega), w64 (x := a * 256) (by omega) (by omega), w64 (x := b) (by omega) (by omega)]
  rw [Go.bits_join .i64 63 (by decide) (fun n h0 h1 => by rw [Go.IntKind.wrap_i64]; have h2 : n < 9223372036854775808 := h1; omega) 8 _ _ (by omega) (by show _ % 256 = 0; omega) (by show _ < 9223372036854775808; omega) (by omega) (by show _ < 256; omega) (by show _ < 9223372036854775808; omega)]
theorem dw_all (p : UInt8 → Bool) (r : List UInt8) : (∀ x ∈ r.dropWhile p, p x = true) → ∀ x ∈ r, p x = true := by
  induction r with
  | nil => intro _ x hx; exact absurd hx List.not_mem_nil
  | cons a r ih =>
    intro h x hx
    by_cases c : p a = true
    · rw [List.dropWhile_cons, if_pos c] at h
      rcases List.mem_cons.mp hx with rfl | hx
      · exact c
      · exact ih h x hx
    · rw [List.dropWhile_cons, if_neg c] at h
      exact h x hx
theorem dw_nil (p : UInt8 → Bool) (r : List UInt8) : r.dropWhile p = [] ↔ ∀ x ∈ r, p x = true := by
  induction r with
  | nil => exact ⟨fun _ x hx => absurd hx List.not_mem_nil, fun _ => rfl⟩
  | cons a r ih =>
    by_cases c : p a = true
    · rw [List.dropWhile_cons, if_pos c, ih]
      constructor
      · intro h x hx
        rcases List.mem_cons.mp hx with rfl | hx
        · exact c
        · exact h x hx
      · intro h x hx; exact h x (List.mem_cons_of_mem _ hx)
    · rw [List.dropWhile_cons, if_neg c]
      constructor
      · intro h; cases h
      · intro h; exact absurd (h a List.mem_cons_self) c
theorem trimB_nil (l : List UInt8) : Go.Lib.trimB l 0 = [] ↔ ∀ x ∈ l, x = 0 := by
  unfold Go.Lib.trimB Go.Lib.trimLeftB Go.Lib.trimRightB
  rw [dw_nil]
  constructor
  · intro h x hx
    have h2 := dw_all (· == (0 : UInt8)) l.reverse (fun x hx => h x (List.mem_reverse.mpr hx)) x (List.mem_reverse.mpr hx)
    exact eq_of_beq h2
  · intro h x hx
    have h2 : x ∈ l := List.mem_reverse.mp ((List.dropWhile_suffix _).subset (List.mem_reverse.mp hx))
    rw [h x h2]; rfl
def told (t : ByteArray) : Nat := (bt t 0 * 256 + bt t 1).toNat
theorem told_eq (t : ByteArray) : bt t 0 * 256 + bt t 1 = (told t : Int) := by
  have h0 := bt_range t 0
  have h1 := bt_range t 1
  unfold told; omega
def tailB (e c i : Int) (t : ByteArray) : Int × Int × Int × ByteArray × Int :=
  if 462 < told t then (0, 0, 0, (⟨#[]⟩ : ByteArray), 3)
  else if ∀ x ∈ t.data.toList.drop (2 + told t), x = 0 then (e, c, i, t.extract 2 (2 + told t), 0) else (0, 0, 0, (⟨#[]⟩ : ByteArray), 3)
theorem nums_told (n : Nat) (h : ¬ 462 < n) : ¬ ((n : Int) > 462) ∧ wrap64 (2 + (n : Int)) = 2 + n ∧ 0 ≤ 2 + (n : Int) ∧ 2 + (n : Int) ≤ ((464 : Nat) : Int) ∧ 2 ≤ 2 + (n : Int) ∧ (2 + (n : Int)).toNat = 2 + n :=
  ⟨by omega, w64 (by omega) (by omega), by omega, by omega, by omega, by omega⟩
theorem code_tail (e c i : Int) (t : ByteArray) (hz : t.size = 464) :
    (if 0 < (t.size : Int) then (if 1 < (t.size : Int) then (if (Go.bits .or .i64 (wrap64 ((wrap64 (bt t 0)) * 256)) (wrap64 (bt t 1))) > 462 then (some ((0 : Int), (0 : Int), (0 : Int), (⟨#[]⟩ : ByteArray), (3 : Int))) else (if 0 ≤ (wrap64 (2 + (Go.bits .or .i64 (wrap64 ((wrap64 (bt t 0)) * 256)) (wrap64 (bt t 1))))) then (if (wrap64 (2 + (Go.bits .or .i64 (wrap64 ((wrap64 (bt t 0)) * 256)) (wrap64 (bt t 1))))) ≤ (t.size : Int) then ((strings_Trim.f (t.extract ((wrap64 (2 + (Go.bits .or .i64 (wrap64 ((wrap64 (bt t 0)) * 256)) (wrap64 (bt t 1))))) : Int).toNat t.size) (⟨#[0]⟩ : ByteArray)).bind fun t174 => (if t174.toList = ([] : List UInt8) then (if 2 ≤ (wrap64 (2 + (Go.bits .or .i64 (wrap64 ((wrap64 (bt t 0)) * 256)) (wrap64 (bt t 1))))) then (some (e, c, i, t.extract 2 ((wrap64 (2 + (Go.bits .or .i64 (wrap64 ((wrap64 (bt t 0)) * 256)) (wrap64 (bt t 1))))) : Int).toNat, 0)) else (none)) else (some (0, 0, 0, (⟨#[]⟩ : ByteArray), 3)))) else (none)) else (none))) else (none)) else (none)) = some (tailB e c i t) := by
  have p0 : 0 < (t.size : Int) := by rw [hz]; decide
  have p1 : 1 < (t.size : Int) := by rw [hz]; decide
  rw [if_pos p0, if_pos p1, or_gen _ _ (bt_range t 0) (bt_range t 1), told_eq, tailB]
  by_cases c1 : 462 < told t
  · rw [if_pos (show (told t : Int) > 462 from by omega), if_pos c1]
  · obtain ⟨n1, n2, n3, n4, n5, n6⟩ := nums_told (told t) c1
    have p2 : 2 + (told t : Int) ≤ (t.size : Int) := by rw [hz]; exact n4
    have p3 : (t.extract (2 + told t) t.size).size ≤ 9223372036854775807 := by rw [ByteArray.size_extract, hz]; omega
    have p4 : (t.extract (2 + told t) t.size).data.toList = t.data.toList.drop (2 + told t) := by
      rw [extract_data, List.take_of_length_le]; rw [List.length_drop, data_len]; exact Nat.le_refl _
    have p5 : strings_Trim.f (t.extract (2 + told t) t.size) (⟨#[0]⟩ : ByteArray) = some ⟨(Go.Lib.trimB (t.data.toList.drop (2 + told t)) 0).toArray⟩ := by
      unfold strings_Trim.f
      rw [if_pos ((toList_data _).trans rfl), if_pos p3, p4]
    have p6 : ((⟨(Go.Lib.trimB (t.data.toList.drop (2 + told t)) 0).toArray⟩ : ByteArray).toList = ([] : List UInt8)) ↔ ∀ x ∈ t.data.toList.drop (2 + told t), x = 0 := by
      rw [toList_data, ← trimB_nil]
    rw [n2, n6, if_neg n1, if_pos n3, if_pos p2, p5, Option.bind_some, if_neg c1, if_pos n5]
    by_cases c2 : ∀ x ∈ t.data.toList.drop (2 + told t), x = 0
    · rw [if_pos (p6.mpr c2), if_pos c2]
    · rw [if_neg (fun h => c2 (p6.mp h)), if_neg c2]
theorem ext_app (a b : ByteArray) (i j : Nat) : (a ++ b).extract (a.size + i) (a.size + j) = b.extract i j := by
  apply eq_of_data
  rw [extract_data, extract_data, append_data, ← data_len a, List.drop_length_add_append]
  congr 1; omega
theorem ext_mid (a b : ByteArray) (j : Nat) : (a ++ b).extract 0 (a.size + j) = a ++ b.extract 0 j := by
  apply eq_of_data
  rw [extract_data, append_data, append_data, extract_data, List.drop_zero, List.drop_zero, Nat.sub_zero, Nat.sub_zero, ← data_len a, List.take_length_add_append]
def raw (e c i : Int) (y : ByteArray) : ByteArray := (strOfNums (be 4 e) ++ non c i) ++ y
theorem raw_size (e c i : Int) (y : ByteArray) : (raw e c i y).size = 16 + y.size := by
  rw [raw, ByteArray.size_append, ByteArray.size_append, strOfNums_size, be_length, non_size]
theorem raw_cut (e c i : Int) (y : ByteArray) (a b : Nat) : (raw e c i y).extract (16 + a) (16 + b) = y.extract a b := by
  have e9 : (strOfNums (be 4 e) ++ non c i).size = 16 := by rw [ByteArray.size_append, strOfNums_size, be_length, non_size]
  have h := ext_app (strOfNums (be 4 e) ++ non c i) y a b
  rw [e9] at h; exact h
theorem raw_tail (e c i : Int) (y : ByteArray) : (raw e c i y).extract 16 (raw e c i y).size = y := by
  have h := raw_cut e c i y 0 y.size
  rw [extract_all] at h
  rw [raw_size]; exact h
theorem raw_non (e c i : Int) (y : ByteArray) : (raw e c i y).extract 4 16 = non c i := by
  have e4 : (strOfNums (be 4 e)).size = 4 := by rw [strOfNums_size, be_length]
  have h := ext_app (strOfNums (be 4 e)) (non c i ++ y) 0 12
  have h2 := extract_left (non c i) y
  rw [non_size] at h2
  rw [e4, h2] at h
  rw [raw, append_assoc]; exact h
theorem raw_mid (e c i : Int) (y : ByteArray) : (raw e c i y).extract 4 480 = non c i ++ y.extract 0 464 := by
  have e4 : (strOfNums (be 4 e)).size = 4 := by rw [strOfNums_size, be_length]
  have h := ext_app (strOfNums (be 4 e)) (non c i ++ y) 0 476
  have h2 := ext_mid (non c i) y 464
  rw [non_size] at h2
  rw [e4] at h
  rw [raw, append_assoc]; exact h.trans h2
theorem head_raw (e c i : Int) (y : ByteArray) (he : 0 ≤ e ∧ e < 4294967296) (hc : 0 ≤ c ∧ c < 18446744073709551616) (hi : 0 ≤ i ∧ i < 4294967296) (hy : y.size = 496) : block_Head.f (raw e c i y) = some (e, c, i, 0) := by
  have h := raw_size e c i y
  unfold block_Head.f
  rw [if_pos (by omega), code_Read.f, Option.bind_some]
  show ((code_Reader_Small.f (raw e c i y) 0).bind _) = _
  rw [raw, append_assoc, small_reads e he.1 he.2, Option.bind_some]
  show ((code_Reader_Big.f (non c i ++ _) 0).bind _) = _
  rw [non, append_assoc, big_reads c hc.1 hc.2, Option.bind_some]
  show ((code_Reader_Small.f (strOfNums (be 4 i) ++ _) 0).bind _) = _
  rw [small_reads i hi.1 hi.2, Option.bind_some]
theorem head_off (x : ByteArray) (h : x.size ≠ 512) : block_Head.f x = some (0, 0, 0, 2) := by
  unfold block_Head.f
  rw [if_neg (by omega)]
def ans (m : ByteArray) (e c i p : Int) (y : ByteArray) : Int × Int × Int × ByteArray × Int :=
  if bp_stag (tk m e).2 p (non c i) (y.extract 0 464) = y.extract 464 496 then tailB e c i (turned (tk m e).1 (non c i) (y.extract 0 464)) else (0, 0, 0, (⟨#[]⟩ : ByteArray), 100)
attribute [local irreducible] raw
theorem get_raw (m : ByteArray) (e c i p : Int) (y : ByteArray) (hm : m.size ≤ 900) (he : 0 ≤ e ∧ e < 4294967296) (hc : 0 ≤ c ∧ c < 18446744073709551616) (hi : 0 ≤ i ∧ i < 4294967296) (hy : y.size = 496) (k : Nat) (hk : 700 ≤ k) : block_Get.f k m p (raw e c i y) = some (ans m e c i p y) := by
  have q1 : 300 ≤ k := Nat.le_trans (by decide) hk
  have q2 : 602 ≤ k := Nat.le_trans (by decide) hk
  have h16 : 16 ≤ ((raw e c i y).size : Int) := by rw [raw_size, hy]; decide
  have hle : y.size ≤ 600 := by rw [hy]; decide
  have hg := bp_get (tk m e).1 (tk m e).2 (non c i) y p (tk_1 m e) (Nat.le_trans (tk_2 m e) (by decide)) (non_size c i) hle k q2
  have h32 : ¬ y.size < 32 := by rw [hy]; decide
  rw [bp_opened, if_neg h32, hy] at hg
  have hz : (turned (tk m e).1 (non c i) (y.extract 0 464)).size = 464 := by rw [turned_size, ByteArray.size_extract, hy]; rfl
  unfold block_Get.f
  rw [head_raw e c i y he hc hi hy, Option.bind_some, if_pos rfl, keys_some m e hm k q1, Option.bind_some, nonce_some e c i hc.1 hc.2, Option.bind_some, if_pos h16, raw_tail, hg, Option.bind_some, ans]
  by_cases ce : bp_stag (tk m e).2 p (non c i) (y.extract 0 464) = y.extract 464 496
  · rw [if_pos ce, if_pos ce, if_pos rfl]
    exact code_tail e c i _ hz
  · rw [if_neg ce, if_neg ce, if_neg (by decide)]
def rf (x : Int) (l : List Int) : Int := l.foldl (fun x b => IntKind.u64.wrap ((IntKind.u64.wrap (x * 256)) + (IntKind.u64.wrap b))) x
theorem rf_be (j : Nat) : ∀ n : Nat, n < 256 ^ j → n < 18446744073709551616 → rf 0 (be j (n : Int)) = (n : Int) := by
  induction j with
  | zero => intro n h _; simp at h; subst h; rfl
  | succ j ih =>
    intro n h h64
    have e1 : (n : Int) / 256 = ((n / 256 : Nat) : Int) := by omega
    have hl : n / 256 < 256 ^ j := by rw [Nat.pow_succ] at h; omega
    clear h
    have h1 := ih (n / 256) hl (by omega)
    clear hl
    have h2 : ∀ (a : List Int) (b : Int), rf 0 (a ++ [b]) = IntKind.u64.wrap ((IntKind.u64.wrap ((rf 0 a) * 256)) + (IntKind.u64.wrap b)) := fun a b => by simp [rf, List.foldl_append]
    show rf 0 (be j ((n : Int) / 256) ++ [(n : Int) % 256]) = n
    rw [h2, e1, h1]
    show IntKind.u64.wrap ((IntKind.u64.wrap (((n / 256 : Nat) : Int) * 256)) + (IntKind.u64.wrap ((n : Int) % 256))) = n
    rw [wu64s (x := ((n / 256 : Nat) : Int) * 256) (by omega) (by omega), wu64s (x := (n : Int) % 256) (by omega) (by omega), wu64s (by omega) (by omega)]
    omega
theorem drop_bt (s : ByteArray) (i : Nat) (h : i < s.size) : (bytesOf s).drop i = bt s (i : Int) :: (bytesOf s).drop (i + 1) := by
  have hl : i < (bytesOf s).length := by rw [show (bytesOf s).length = s.size by simp [bytesOf, data_len]]; exact h
  rw [List.drop_eq_getElem_cons hl, Go.Proofs.YtgbhjkkfleeodaaDoor.XL.bt_nat, List.getD_eq_getElem?_getD, List.getElem?_eq_getElem hl]; rfl
theorem rhigh_loop (s a : ByteArray) (b : Int) (hs : s.size ≤ 1000) : ∀ (d i k : Nat) (x : Int), i + d = s.size → d < k → lodestoneref04_R_High.l0 k s x (i : Int) a b = some (a, b, rf x ((bytesOf s).drop i)) := by
  intro d
  induction d with
  | zero =>
    intro i k x hd hk
    obtain ⟨k, rfl⟩ : ∃ q, k = q + 1 := ⟨k - 1, by omega⟩
    have hl : (bytesOf s).length ≤ i := by rw [show (bytesOf s).length = s.size by simp [bytesOf, data_len]]; omega
    unfold lodestoneref04_R_High.l0
    rw [if_neg (by omega), List.drop_of_length_le hl]; rfl
  | succ d ih =>
    intro i k x hd hk
    obtain ⟨k, rfl⟩ : ∃ q, k = q + 1 := ⟨k - 1, by omega⟩
    unfold lodestoneref04_R_High.l0
    rw [if_pos (by omega), if_pos (by omega), w64 (x := (i : Int) + 1) (by omega) (by omega), show (i : Int) + 1 = ((i + 1 : Nat) : Int) by omega, ih (i + 1) k _ (by omega) (by omega), drop_bt s i (by omega)]
    rfl
theorem rhigh_some (j : Nat) (n : Int) (h0 : 0 ≤ n) (h1 : n < 18446744073709551616) (hn : n < ((256 ^ j : Nat) : Int)) (hj : j ≤ 8) (rest : ByteArray) (m : Int) (hm : m = j) (k : Nat) (hk : 20 ≤ k) :
    lodestoneref04_R_High.f k (strOfNums (be j n) ++ rest) 0 m = some (rest, 0, n) := by
  obtain ⟨a, rfl⟩ := Int.eq_ofNat_of_zero_le h0
  have hn2 : a < 256 ^ j := Int.ofNat_lt.mp hn
  clear hn
  obtain ⟨k, rfl⟩ : ∃ q, k = q + 1 := ⟨k - 1, by omega⟩
  have e1 : (strOfNums (be j (a : Int))).size = j := by rw [strOfNums_size, be_length]
  have e2 := size_append (strOfNums (be j (a : Int))) rest
  have e3 := extract_left (strOfNums (be j (a : Int))) rest
  have e4 := extract_right (strOfNums (be j (a : Int))) rest
  rw [e1] at e3 e4
  have hb : lodestoneref04_R_Bytes.f (k + 1) (strOfNums (be j (a : Int)) ++ rest) 0 m = some (rest, 0, strOfNums (be j (a : Int))) := by
    unfold lodestoneref04_R_Bytes.f
    rw [if_neg (by omega), lodestoneref04_R_Bytes.j0, if_neg (by rw [decide_eq_true_iff]; omega), if_pos rfl, if_pos (by omega), if_pos (by omega), hm, Int.toNat_natCast, e3, e4]
  unfold lodestoneref04_R_High.f
  rw [hb, Option.bind_some]
  show lodestoneref04_R_High.l0 (k + 1) (strOfNums (be j (a : Int))) 0 ((0 : Nat) : Int) rest 0 = _
  rw [rhigh_loop _ rest 0 (by omega) j 0 (k + 1) 0 (by omega) (by omega), List.drop_zero, bytesOf_strOfNums (be_range j _), rf_be j a hn2 (by omega)]
theorem ref_tail (t : ByteArray) (n : Nat) (e c i : Int) (hz : t.size = 464) (hn : n ≤ 462) : ∀ (d x k : Nat), x + d = 464 → d < k →
    lodestoneref11_Get.l0 k t (n : Int) (x : Int) e c i = some (if ∀ z ∈ t.data.toList.drop x, z = 0 then (e, c, i, t.extract 2 (2 + n), 0) else (0, 0, 0, (⟨#[]⟩ : ByteArray), 3)) := by
  intro d
  induction d with
  | zero =>
    intro x k hd hk
    obtain ⟨k, rfl⟩ : ∃ q, k = q + 1 := ⟨k - 1, by omega⟩
    have hl : t.data.toList.length ≤ x := by rw [data_len]; omega
    obtain ⟨n1, n2, n3, n4, n5, n6⟩ := nums_told n (by omega)
    rw [lodestoneref11_Get.l0_succ, if_neg (by omega), n2, if_pos n5, if_pos (by omega), n6, List.drop_of_length_le hl, if_pos (fun z hz => absurd hz List.not_mem_nil)]
  | succ d ih =>
    intro x k hd hk
    obtain ⟨k, rfl⟩ : ∃ q, k = q + 1 := ⟨k - 1, by omega⟩
    have hl : x < t.data.toList.length := by rw [data_len]; omega
    have hx : x < t.size := by omega
    have hb : bt t (x : Int) = ((t.data.toList[x]'hl).toNat : Int) := by
      unfold bt
      rw [dif_pos (show ((x : Int)).toNat < t.size by omega)]
      rfl
    rw [lodestoneref11_Get.l0_succ, if_pos (by omega), if_pos (by omega), w64 (x := (x : Int) + 1) (by omega) (by omega), show (x : Int) + 1 = ((x + 1 : Nat) : Int) by omega, ih (x + 1) k (by omega) (by omega), List.drop_eq_getElem_cons hl, hb]
    by_cases c0 : t.data.toList[x]'hl = 0
    · rw [c0, if_pos (by rfl)]
      congr 1
      by_cases c1 : ∀ z ∈ t.data.toList.drop (x + 1), z = 0
      · rw [if_pos c1, if_pos (fun z hz => (List.mem_cons.mp hz).elim (fun h => h) (fun h => c1 z h))]
      · rw [if_neg c1, if_neg (fun h => c1 (fun z hz => h z (List.mem_cons_of_mem _ hz)))]
    · have c2 : ¬ (((t.data.toList[x]'hl).toNat : Int) = 0) := fun h => c0 (by
        have h2 : (t.data.toList[x]'hl).toNat = 0 := by omega
        exact UInt8.toNat_inj.mp (h2.trans rfl))
      rw [if_neg c2, if_neg (fun h => c0 (h _ List.mem_cons_self))]
theorem raw_end (e c i : Int) (y : ByteArray) (hy : y.size = 496) : (raw e c i y).extract 480 (raw e c i y).size = y.extract 464 496 := by
  have h := raw_cut e c i y 464 496
  rw [raw_size, hy]; exact h
theorem told_sum (t : ByteArray) : wrap64 ((wrap64 ((wrap64 (bt t 0)) * 256)) + (wrap64 (bt t 1))) = (told t : Int) := by
  have h0 := bt_range t 0
  have h1 := bt_range t 1
  rw [w64 (x := bt t 0) (by omega) (by omega), w64 (x := bt t 1) (by omega) (by omega), w64 (x := bt t 0 * 256) (by omega) (by omega), w64 (by omega) (by omega), told_eq]
theorem ref_last (k : Nat) (t : ByteArray) (e c i : Int) (hz : t.size = 464) (hk : 500 ≤ k) :
    (if 0 < (t.size : Int) then (if 1 < (t.size : Int) then (if (wrap64 ((wrap64 ((wrap64 (bt t 0)) * 256)) + (wrap64 (bt t 1)))) > 462 then (some ((0 : Int), (0 : Int), (0 : Int), (⟨#[]⟩ : ByteArray), (3 : Int))) else (lodestoneref11_Get.l0 k t (wrap64 ((wrap64 ((wrap64 (bt t 0)) * 256)) + (wrap64 (bt t 1)))) (wrap64 (2 + (wrap64 ((wrap64 ((wrap64 (bt t 0)) * 256)) + (wrap64 (bt t 1)))))) e c i)) else (none)) else (none)) = some (tailB e c i t) := by
  have p0 : 0 < (t.size : Int) := by rw [hz]; decide
  have p1 : 1 < (t.size : Int) := by rw [hz]; decide
  rw [if_pos p0, if_pos p1, told_sum, tailB]
  generalize hn : told t = n
  clear hn p0 p1
  by_cases c1 : 462 < n
  · rw [if_pos (show (n : Int) > 462 from by omega), if_pos c1]
  · obtain ⟨n1, n2, n3, n4, n5, n6⟩ := nums_told n c1
    have n7 : 2 + (n : Int) = ((2 + n : Nat) : Int) := by omega
    rw [if_neg n1, if_neg c1, n2, n7, ref_tail t n e c i hz (by omega) (464 - (2 + n)) (2 + n) k (by omega) (by omega)]
theorem raw_reads (e c i : Int) (y : ByteArray) (he : 0 ≤ e ∧ e < 4294967296) (hc : 0 ≤ c ∧ c < 18446744073709551616) (hi : 0 ≤ i ∧ i < 4294967296) (k : Nat) (hk : 20 ≤ k) :
    lodestoneref04_R_High.f k (raw e c i y) 0 4 = some (non c i ++ y, 0, e) ∧ lodestoneref04_R_High.f k (non c i ++ y) 0 8 = some (strOfNums (be 4 i) ++ y, 0, c) ∧ lodestoneref04_R_High.f k (strOfNums (be 4 i) ++ y) 0 4 = some (y, 0, i) := by
  refine ⟨?_, ?_, rhigh_some 4 i hi.1 (by omega) hi.2 (by decide) y 4 rfl k hk⟩
  · rw [raw, append_assoc]
    exact rhigh_some 4 e he.1 (by omega) he.2 (by decide) (non c i ++ y) 4 rfl k hk
  · rw [non, append_assoc]
    exact rhigh_some 8 c hc.1 hc.2 hc.2 (by decide) _ 8 rfl k hk
theorem ref_get (m : ByteArray) (e c i p : Int) (y : ByteArray) (hm : m.size ≤ 900) (he : 0 ≤ e ∧ e < 4294967296) (hc : 0 ≤ c ∧ c < 18446744073709551616) (hi : 0 ≤ i ∧ i < 4294967296) (hy : y.size = 496) :
    ∃ k0, ∀ k, k0 ≤ k → lodestoneref11_Get.f k m p (raw e c i y) = some (ans m e c i p y) := by
  have ht : (y.extract 0 464).size = 464 := by rw [ByteArray.size_extract, hy]; rfl
  have ht2 : (y.extract 0 464).size ≤ 1000 := by rw [ht]; decide
  obtain ⟨k1, h1⟩ := bp_turns_outer (tk m e).1 (non c i) (y.extract 0 464) (tk_1 m e) (non_size c i) ht2 16 0 (by rw [ht]; decide)
  have h2 : lodestoneref03_Turn.f k1 (tk m e).1 (non c i) (y.extract 0 464) = some (turned (tk m e).1 (non c i) (y.extract 0 464)) := h1
  refine ⟨k1 + 1000, fun k hk => ?_⟩
  obtain ⟨d, hd⟩ : ∃ d, k = k1 + d := ⟨k - k1, by omega⟩
  have q1 : 300 ≤ k := by omega
  have q2 : 20 ≤ k := by omega
  have q3 : 500 ≤ k := by omega
  have h3 : lodestoneref03_Turn.f k (tk m e).1 (non c i) (y.extract 0 464) = some (turned (tk m e).1 (non c i) (y.extract 0 464)) := by
    rw [hd]
    exact bp_mono_add (fun k => lodestoneref03_Turn.f k (tk m e).1 (non c i) (y.extract 0 464)) (fun k => lodestoneref03_Turn.mono _ _ _ k) k1 _ h2 d
  clear hk hd h1 h2
  have hz : (turned (tk m e).1 (non c i) (y.extract 0 464)).size = 464 := by rw [turned_size, ht]
  obtain ⟨r1, r2, r3⟩ := raw_reads e c i y he hc hi k q2
  have e1 : e % 4294967296 = e := by omega
  have e2 : i % 4294967296 = i := by omega
  have e3 : (raw e c i y).size = 512 := by rw [raw_size, hy]
  have e4 : ((raw e c i y).size : Int) = 512 := by rw [e3]; rfl
  have e5 : (480 : Int) ≤ ((raw e c i y).size : Int) := by rw [e4]; decide
  have e6 : (16 : Int) ≤ ((raw e c i y).size : Int) := by rw [e4]; decide
  have h9 : lodestoneref04_High.f k (p % 4294967296) 4 = some (bp_small p) := bp_high _ (by omega) (by omega) _ q1
  have s1 : (non c i ++ y.extract 0 464).size = 476 := by rw [ByteArray.size_append, non_size, ht]
  have s2 : (bp_small p).size + (non c i ++ y.extract 0 464).size ≤ 9223372036854775807 := by rw [s1, bp_small_size]; decide
  have s3 : (bp_small p ++ (non c i ++ y.extract 0 464)).size ≤ 1000 := by rw [ByteArray.size_append, s1, bp_small_size]; decide
  have s4 : lodestoneref01_Tag.f (tk m e).2 (bp_small p ++ (non c i ++ y.extract 0 464)) = some (bp_stag (tk m e).2 p (non c i) (y.extract 0 464)) := by
    rw [bp_rtag _ _ (Nat.le_trans (tk_2 m e) (by decide)) s3, ← append_assoc, ← bp_stag]
  unfold lodestoneref11_Get.f
  rw [if_pos e4, r1, Option.bind_some]
  show (((lodestoneref04_R_High.f k (non c i ++ y) 0 8)).bind _) = _
  rw [r2, Option.bind_some]
  show (((lodestoneref04_R_High.f k (strOfNums (be 4 i) ++ y) 0 4)).bind _) = _
  rw [r3, Option.bind_some]
  simp only []
  rw [e1, e2, rkeys_some m e hm he.1 he.2 k q1, Option.bind_some, h9, Option.bind_some, if_pos (by decide), if_pos e5, raw_mid, if_pos s2, s4, Option.bind_some, raw_end e c i y hy, ans]
  by_cases ce : bp_stag (tk m e).2 p (non c i) (y.extract 0 464) = y.extract 464 496
  · rw [if_pos (toList_inj.mpr ce), if_pos ce, if_pos (by decide), if_pos e6, if_pos (by decide), raw_non, show (raw e c i y).extract 16 480 = y.extract 0 464 from raw_cut e c i y 0 464, h3, Option.bind_some]
    exact ref_last k _ e c i hz q3
  · rw [if_neg (fun h => ce (toList_inj.mp h)), if_neg ce]
end Go.Proofs.YtgbhjkkfleeodaaDoor.PureBlk
