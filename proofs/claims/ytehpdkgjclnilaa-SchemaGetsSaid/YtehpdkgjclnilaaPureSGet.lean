/- The plain law of schema.Get on bytes that are made of indexes. -/
import Derived.Test.YtehpdkgjclnilaaPureNum
namespace Go.Proofs.Ytehpdkgjclnilaa.Pure
open Go.RowKit Go.Proofs.Ytehpdkgjclnilaa.PSchemaGets Go.Proofs.YtehpdkgjclnilaaW.PrintWords Go.Proofs.YtehpdkgjclnilaaW.PrintLast Go.Proofs.YtehpdkgjclnilaaW.PrintMore Go.Proofs.Ytehpdkgjclnilaa.XB
set_option linter.unusedVariables false
set_option linter.unusedSimpArgs false
def em : ByteArray := ⟨#[]⟩
theorem em_nil : em.toList = [] := (toList_data em).trans rfl
theorem em_size : em.size = 0 := rfl
theorem size_em {s : ByteArray} (h : s.size = 0) : s = em := by
  apply eq_of_data
  rw [List.eq_nil_of_length_eq_zero ((data_len s).trans h)]; rfl
theorem fail_em (e : Int) (he : e ≠ 0) (a : Int) : code_Reader_Fail.f em e a = some (em, e) := by
  unfold code_Reader_Fail.f code_Reader_Err.f
  rw [Option.bind_some, if_neg he]
theorem fail_ok (s : ByteArray) : code_Reader_Fail.f s 0 3 = some (em, 3) := rfl
theorem num_em (e most : Int) (he : e ≠ 0) (k : Nat) (hk : 1 ≤ k) : code_Reader_Num.f k em e most = some (0, em, e) := by
  obtain ⟨k, rfl⟩ : ∃ q, k = q + 1 := ⟨k - 1, by omega⟩
  have hb : code_Reader_Bytes.f em e 1 = some (em, em, e) := by
    unfold code_Reader_Bytes.f
    rw [if_neg (by decide), if_pos (by rw [em_size]; decide), fail_em e he, Option.bind_some]; rfl
  unfold code_Reader_Num.f code_Reader_Num.l0
  rw [if_pos (by decide), hb, Option.bind_some, if_pos em_nil]
theorem may_none (a b : Int) : schema_May.f a b 0 = some false := by simp [schema_May.f]
theorem end_em (e : Int) : code_Reader_End.f em e = some (e, em, e) := rfl
theorem end_some (s : ByteArray) (h : 0 < s.size) : ∃ q r, code_Reader_End.f s 0 = some (3, q, r) := by
  refine ⟨em, 3, ?_⟩
  unfold code_Reader_End.f code_Reader_Left.f code_Reader_Err.f
  rw [Option.bind_some, if_pos (show (s.size : Int) > 0 by omega), fail_ok]; rfl
def uw (n : Int) : Int := IntKind.u64.wrap n
theorem uw_range (n : Int) : 0 ≤ uw n ∧ uw n < 18446744073709551616 := by rw [uw, wu64]; omega
theorem uw_id {n : Int} (h0 : 0 ≤ n) (h1 : n < 100) : uw n = n := by rw [uw, wu64]; omega
def num (n : Int) : ByteArray := strOfNums (leb 10 n)
theorem num_size (n : Int) : (num n).size ≤ 10 := by
  have := leb_length 10 n
  rw [num, strOfNums_size]; exact this
def enc (x : S26) : ByteArray := (num (uw x.f0) ++ num (uw x.f1)) ++ num (uw x.f2)
theorem enc_size (x : S26) : (enc x).size ≤ 30 := by
  have h0 := num_size (uw x.f0)
  have h1 := num_size (uw x.f1)
  have h2 := num_size (uw x.f2)
  rw [enc, size_append, size_append]; omega
def encs (g : Nat → S26) : Nat → Nat → ByteArray
  | 0, _ => em
  | d + 1, i => enc (g i) ++ encs g d (i + 1)
def outs (g : Nat → S26) (i : Nat) : List S26 := (List.range i).map g
theorem outs_length (g : Nat → S26) (i : Nat) : (outs g i).length = i := by simp [outs]
theorem outs_succ (g : Nat → S26) (i : Nat) : outs g (i + 1) = outs g i ++ [g i] := by simp [outs, List.range_succ]
theorem outs_rd (g : Nat → S26) (i j : Nat) (h : j < i) : rd_T26 (outs g i) (j : Int) = g j := by
  unfold rd_T26 outs
  rw [Int.toNat_natCast, List.getD_eq_getElem?_getD, List.getElem?_map, List.getElem?_range h]; rfl
def nice (x : S26) : Prop := (0 ≤ x.f0 ∧ x.f0 < 8) ∧ (0 ≤ x.f1 ∧ x.f1 < 8) ∧ (x.f2 = 1 ∨ x.f2 = 2)
def bad (x : S26) : Prop := x.f2 % 8 = 7
def lt (x y : S26) : Prop := x.f0 < y.f0 ∨ (x.f0 = y.f0 ∧ x.f1 < y.f1)
instance (x y : S26) : Decidable (lt x y) := by unfold lt; exact inferInstance
instance (x : S26) : Decidable (nice x) := by unfold nice; exact inferInstance
theorem compare_some (a b : Int) : cmp_Compare_int.f a b = some (if a < b then -1 else if a > b then 1 else 0) := by
  unfold cmp_Compare_int.f cmp_isNaN_int.f
  simp only [bne_self_eq_false, Option.bind_some]
  rw [if_neg (by decide), if_neg (by decide)]
  split
  · rfl
  · split <;> rfl
theorem or_some (a b : Int) (k : Nat) (hk : 5 ≤ k) : cmp_Or_int.f k [a, b] = some (if a = 0 then b else a) := by
  obtain ⟨k, rfl⟩ : ∃ q, k = q + 1 + 1 + 1 := ⟨k - 3, by omega⟩
  have e1 : wrap64 (0 + 1) = 1 := by unfold wrap64; omega
  have e2 : wrap64 (1 + 1) = 2 := by unfold wrap64; omega
  have r0 : rd [a, b] 0 = a := rfl
  have r1 : rd [a, b] 1 = b := rfl
  have hl : ([a, b].length : Int) = 2 := rfl
  unfold cmp_Or_int.f
  rw [hl, cmp_Or_int.l0, hl, if_pos (by decide), if_pos (by decide), if_pos (by decide), r0, e1]
  by_cases c : a = 0
  · rw [if_pos c, if_pos c, cmp_Or_int.l0, hl, if_pos (by decide), if_pos (by decide), if_pos (by decide), r1, e2]
    by_cases c2 : b = 0
    · rw [if_pos c2, cmp_Or_int.l0, if_neg (by decide), c2]
    · rw [if_neg c2]
  · rw [if_neg c, if_neg c]
theorem before_some (x y : S26) (k : Nat) (hk : 5 ≤ k) : ∃ t, schema_before.f k x.f0 x.f1 x.f2 y.f0 y.f1 y.f2 = some t ∧ (t ≥ 0 ↔ ¬ lt x y) := by
  refine ⟨_, by unfold schema_before.f; rw [compare_some, Option.bind_some, compare_some, Option.bind_some, or_some _ _ k hk, Option.bind_some], ?_⟩
  unfold lt
  by_cases c1 : x.f0 < y.f0
  · rw [if_pos c1, if_neg (by decide)]; omega
  · rw [if_neg c1]
    by_cases c2 : x.f0 > y.f0
    · rw [if_pos c2, if_neg (by decide)]; omega
    · rw [if_neg c2, if_pos rfl]
      by_cases c3 : x.f1 < y.f1
      · rw [if_pos c3]; omega
      · rw [if_neg c3]; split <;> omega
theorem wu_next (i : Nat) (h : i < 1000) : IntKind.u64.wrap ((i : Int) + 1) = ((i + 1 : Nat) : Int) := by rw [wu64]; omega
theorem w_zero : wrap64 0 = 0 := by unfold wrap64; omega
/-- a reader that has failed stays so -/
theorem get_fail (n : Nat) (hn : n ≤ 100) : ∀ (d k : Nat) (X : List S26) (i : Nat) (e : Int), e ≠ 0 → i + d = n → d + 10 ≤ k → X.length + d ≤ 1000 → ∃ e', e' ≠ 0 ∧ schema_Get.l0 k X (n : Int) (i : Int) em e = some ([], e') := by
  intro d
  induction d with
  | zero =>
    intro k X i e he hi hk hX
    obtain ⟨k, rfl⟩ : ∃ q, k = q + 1 := ⟨k - 1, by omega⟩
    refine ⟨e, he, ?_⟩
    rw [schema_Get.l0, if_neg (by omega), end_em, Option.bind_some, if_neg he]
  | succ d ih =>
    intro k X i e he hi hk hX
    obtain ⟨k, rfl⟩ : ∃ q, k = q + 1 := ⟨k - 1, by omega⟩
    obtain ⟨e', h1, h2⟩ := ih k (X ++ [(⟨0, 0, 0⟩ : S26)]) (i + 1) e he (by omega) (by omega) (by rw [List.length_append, List.length_singleton]; omega)
    refine ⟨e', h1, ?_⟩
    rw [schema_Get.l0, if_pos (by omega), num_em e 64 he k (by omega), Option.bind_some]
    dsimp only
    rw [num_em e 64 he k (by omega), Option.bind_some]
    dsimp only
    rw [num_em e 2 he k (by omega), Option.bind_some]
    dsimp only
    rw [w_zero, may_none, Option.bind_some, if_neg (by decide), fail_em e he, Option.bind_some, if_pos (by omega), wu_next i (by omega)]
    exact h2
def good (g : Nat → S26) (i m : Nat) : Prop := ∀ j, i ≤ j → j < m → nice (g j) ∧ (0 < j → lt (g (j - 1)) (g j))
theorem good_succ {g : Nat → S26} {i m : Nat} (h1 : nice (g i)) (h2 : 0 < i → lt (g (i - 1)) (g i)) : good g i m ↔ good g (i + 1) m := by
  constructor
  · intro h j hj hm; exact h j (by omega) hm
  · intro h j hj hm
    rcases Nat.eq_or_lt_of_le hj with rfl | hj
    · exact ⟨h1, h2⟩
    · exact h j hj hm
theorem uw_bad {x : S26} (h : bad x) : ¬ uw x.f2 ≤ 2 := by
  unfold bad at h
  rw [uw, wu64]; omega
theorem get_loop (g : Nat → S26) (m : Nat) (hm : m ≤ 9) (hg : ∀ j, j < m → bad (g j) ∨ nice (g j)) (tail : ByteArray) : ∀ (d i k : Nat), i + d = m → d + 60 ≤ k →
    ∃ r : List S26 × Int, schema_Get.l0 k (outs g i) (m : Int) (i : Int) (encs g d i ++ tail) 0 = some r ∧ ((good g i m ∧ tail = em) → r = (outs g m, 0)) ∧ (¬ (good g i m ∧ tail = em) → r.1 = [] ∧ r.2 ≠ 0) := by
  intro d
  induction d with
  | zero =>
    intro i k hi hk
    obtain ⟨k, rfl⟩ : ∃ q, k = q + 1 := ⟨k - 1, by omega⟩
    obtain rfl : i = m := by omega
    have hgd : good g i i := fun j h1 h2 => by omega
    rw [show encs g 0 i ++ tail = tail from empty_append tail, schema_Get.l0, if_neg (by omega)]
    by_cases c : tail.size = 0
    · obtain rfl := size_em c
      refine ⟨(outs g i, 0), by rw [end_em, Option.bind_some, if_pos rfl], fun _ => rfl, fun h => absurd ⟨hgd, rfl⟩ h⟩
    · obtain ⟨q, r, h⟩ := end_some tail (by omega)
      refine ⟨([], 3), by rw [h, Option.bind_some, if_neg (show ¬ ((3 : Int) = 0) by decide)], fun h => absurd (by rw [h.2]; rfl) c, fun _ => ⟨rfl, by decide⟩⟩
  | succ d ih =>
    intro i k hi hk
    obtain ⟨k, rfl⟩ : ∃ q, k = q + 1 := ⟨k - 1, by omega⟩
    have hsz := outs_length g i
    have hread : encs g (d + 1) i ++ tail = num (uw (g i).f0) ++ (num (uw (g i).f1) ++ (num (uw (g i).f2) ++ (encs g d (i + 1) ++ tail))) := by
      rw [encs, enc, append_assoc, append_assoc, append_assoc]
    have ra := uw_range (g i).f0
    have rb := uw_range (g i).f1
    have rc := uw_range (g i).f2
    have na := num_any (uw (g i).f0) 64 ra.1 ra.2 (num (uw (g i).f1) ++ (num (uw (g i).f2) ++ (encs g d (i + 1) ++ tail))) k (by omega)
    have nb := num_any (uw (g i).f1) 64 rb.1 rb.2 (num (uw (g i).f2) ++ (encs g d (i + 1) ++ tail)) k (by omega)
    have nc := num_any (uw (g i).f2) 2 rc.1 rc.2 (encs g d (i + 1) ++ tail) k (by omega)
    have out : ∀ (X : List S26) (e : Int), e ≠ 0 → X.length + d ≤ 1000 → ¬ good g i m → ∀ R, R = schema_Get.l0 k X (m : Int) ((i + 1 : Nat) : Int) em e → ∃ r : List S26 × Int, R = some r ∧ ((good g i m ∧ tail = em) → r = (outs g m, 0)) ∧ (¬ (good g i m ∧ tail = em) → r.1 = [] ∧ r.2 ≠ 0) := by
      intro X e he hX hn R hR
      obtain ⟨e', h1, h2⟩ := get_fail m (by omega) d k X (i + 1) e he (by omega) (by omega) hX
      exact ⟨([], e'), hR.trans h2, fun h => absurd h.1 hn, fun _ => ⟨rfl, h1⟩⟩
    rw [hread, schema_Get.l0, if_pos (by omega), show num (uw (g i).f0) = strOfNums (leb 10 (uw (g i).f0)) from rfl, na]
    rcases hg i (by omega) with hb | hn
    · -- one that may not be: its kind is too great
      have hng : ¬ good g i m := fun h => by
        have h1 := (h i (Nat.le_refl _) (by omega)).1.2.2
        unfold bad at hb; omega
      by_cases ca : uw (g i).f0 ≤ 64
      · rw [if_pos ca, Option.bind_some]
        dsimp only
        rw [show num (uw (g i).f1) = strOfNums (leb 10 (uw (g i).f1)) from rfl, nb]
        by_cases cb : uw (g i).f1 ≤ 64
        · rw [if_pos cb, Option.bind_some]
          dsimp only
          rw [show num (uw (g i).f2) = strOfNums (leb 10 (uw (g i).f2)) from rfl, nc, if_neg (uw_bad hb), Option.bind_some]
          dsimp only
          rw [w_zero, may_none, Option.bind_some, if_neg (by decide), show (⟨#[]⟩ : ByteArray) = em from rfl, fail_em 3 (by decide), Option.bind_some, if_pos (by omega), wu_next i (by omega)]
          exact out _ 3 (by decide) (by rw [List.length_append, List.length_singleton]; omega) hng _ rfl
        · rw [if_neg cb, Option.bind_some]
          dsimp only
          rw [show (⟨#[]⟩ : ByteArray) = em from rfl, num_em 3 2 (by decide) k (by omega), Option.bind_some]
          dsimp only
          rw [w_zero, may_none, Option.bind_some, if_neg (by decide), fail_em 3 (by decide), Option.bind_some, if_pos (by omega), wu_next i (by omega)]
          exact out _ 3 (by decide) (by rw [List.length_append, List.length_singleton]; omega) hng _ rfl
      · rw [if_neg ca, Option.bind_some]
        dsimp only
        rw [show (⟨#[]⟩ : ByteArray) = em from rfl, num_em 3 64 (by decide) k (by omega), Option.bind_some]
        dsimp only
        rw [num_em 3 2 (by decide) k (by omega), Option.bind_some]
        dsimp only
        rw [w_zero, may_none, Option.bind_some, if_neg (by decide), fail_em 3 (by decide), Option.bind_some, if_pos (by omega), wu_next i (by omega)]
        exact out _ 3 (by decide) (by rw [List.length_append, List.length_singleton]; omega) hng _ rfl
    · -- one that may be
      have ua : uw (g i).f0 = (g i).f0 := uw_id hn.1.1 (by have := hn.1.2; omega)
      have ub : uw (g i).f1 = (g i).f1 := uw_id hn.2.1.1 (by have := hn.2.1.2; omega)
      have uc : uw (g i).f2 = (g i).f2 := uw_id (by rcases hn.2.2 with h | h <;> omega) (by rcases hn.2.2 with h | h <;> omega)
      rw [if_pos (by rw [ua]; have := hn.1.2; omega), Option.bind_some]
      dsimp only
      rw [show num (uw (g i).f1) = strOfNums (leb 10 (uw (g i).f1)) from rfl, nb, if_pos (by rw [ub]; have := hn.2.1.2; omega), Option.bind_some]
      dsimp only
      rw [show num (uw (g i).f2) = strOfNums (leb 10 (uw (g i).f2)) from rfl, nc, if_pos (by rw [uc]; rcases hn.2.2 with h | h <;> omega), Option.bind_some]
      dsimp only
      rw [ua, ub, uc, w64 (x := (g i).f0) (by have := hn.1.1; omega) (by have := hn.1.2; omega), w64 (x := (g i).f1) (by have := hn.2.1.1; omega) (by have := hn.2.1.2; omega), w64 (x := (g i).f2) (by rcases hn.2.2 with h | h <;> omega) (by rcases hn.2.2 with h | h <;> omega)]
      have hmay : schema_May.f (g i).f0 (g i).f1 (g i).f2 = some true := by
        obtain ⟨⟨a0, a1⟩, ⟨b0, b1⟩, hc⟩ := hn
        unfold schema_May.f
        rw [if_pos (by omega), if_pos (by omega), if_pos (by omega), if_pos (by omega)]
        rcases hc with h | h
        · rw [if_pos h]
        · rw [if_neg (by omega), h]; rfl
      have heta : (⟨(g i).f0, (g i).f1, (g i).f2⟩ : S26) = g i := rfl
      rw [hmay, Option.bind_some, if_pos rfl, heta, hsz, ← outs_succ]
      obtain ⟨r, hr, hr1, hr2⟩ := ih (i + 1) k (by omega) (by omega)
      by_cases c0 : i = 0
      · subst c0
        rw [if_neg (by decide), if_pos (by decide), wu_next 0 (by decide)]
        have hgd : good g 0 m ↔ good g 1 m := good_succ hn (fun h => absurd h (by decide))
        exact ⟨r, hr, fun h => hr1 ⟨hgd.mp h.1, h.2⟩, fun h => hr2 (fun h' => h ⟨hgd.mpr h'.1, h'.2⟩)⟩
      · have ei : wrap64 ((i : Int) - 1) = ((i - 1 : Nat) : Int) := by rw [w64 (by omega) (by omega)]; omega
        rw [if_pos (by omega), ei, if_pos (by omega), if_pos (by omega), outs_rd g i (i - 1) (by omega)]
        obtain ⟨t, ht, hlt⟩ := before_some (g (i - 1)) (g i) k (by omega)
        rw [ht, Option.bind_some]
        by_cases cl : lt (g (i - 1)) (g i)
        · rw [if_neg (fun h => (hlt.mp h) cl), if_pos (by omega), wu_next i (by omega)]
          have hgd : good g i m ↔ good g (i + 1) m := good_succ hn (fun _ => cl)
          exact ⟨r, hr, fun h => hr1 ⟨hgd.mp h.1, h.2⟩, fun h => hr2 (fun h' => h ⟨hgd.mpr h'.1, h'.2⟩)⟩
        · rw [if_pos (hlt.mpr cl), fail_ok, Option.bind_some, if_pos (by omega), wu_next i (by omega)]
          exact out _ 3 (by decide) (by rw [outs_length]; omega) (fun h => cl ((h i (Nat.le_refl _) (by omega)).2 (by omega))) _ rfl
theorem get_some (g : Nat → S26) (m : Nat) (hm : m ≤ 9) (hg : ∀ j, j < m → bad (g j) ∨ nice (g j)) (tail : ByteArray) (k : Nat) (hk : 100 ≤ k) :
    ∃ r : List S26 × Int, schema_Get.f k ((num (m : Int) ++ encs g m 0) ++ tail) = some r ∧ ((good g 0 m ∧ tail = em) → r = (outs g m, 0)) ∧ (¬ (good g 0 m ∧ tail = em) → r.1 = [] ∧ r.2 ≠ 0) := by
  have h := num_any (m : Int) 32 (by omega) (by omega) (encs g m 0 ++ tail) k (by omega)
  obtain ⟨r, hr⟩ := get_loop g m hm hg tail m 0 k (by omega) (by omega)
  refine ⟨r, ?_, hr.2⟩
  unfold schema_Get.f code_Read.f
  rw [Option.bind_some]
  dsimp only
  rw [append_assoc, show num (m : Int) = strOfNums (leb 10 (m : Int)) from rfl, h, if_pos (by omega), Option.bind_some]
  exact hr.1
theorem num_k (n : Int) (h0 : 0 ≤ n) (h1 : n < 18446744073709551616) (k : Nat) (hk : 10 ≤ k) : code_Num.f k n = some (num n) := num_some n h0 h1 k hk
theorem put_loop (g : Nat → S26) (m : Nat) (hm : m ≤ 9) (hg : ∀ j, j < m → nice (g j)) : ∀ (d i k : Nat) (s : ByteArray), i + d = m → d + 20 ≤ k → s.size ≤ 1000 * (i + 1) → schema_Put.l0 k s (outs g m) (m : Int) (i : Int) = some (s ++ encs g d i) := by
  intro d
  induction d with
  | zero =>
    intro i k s hi hk hs
    obtain ⟨k, rfl⟩ : ∃ q, k = q + 1 := ⟨k - 1, by omega⟩
    rw [schema_Put.l0, if_neg (by omega)]
    show _ = some (s ++ (⟨#[]⟩ : ByteArray))
    rw [append_empty]
  | succ d ih =>
    intro i k s hi hk hs
    obtain ⟨k, rfl⟩ : ∃ q, k = q + 1 := ⟨k - 1, by omega⟩
    obtain ⟨⟨a0, a1⟩, ⟨b0, b1⟩, hc⟩ := hg i (by omega)
    have ma : mx (g i).f0 0 = (g i).f0 := by unfold mx; split <;> omega
    have mb : mx (g i).f1 0 = (g i).f1 := by unfold mx; split <;> omega
    have mc : mx (g i).f2 0 = (g i).f2 := by unfold mx; split <;> omega
    have ra := uw_range (g i).f0
    have rb := uw_range (g i).f1
    have rc := uw_range (g i).f2
    have h0 := num_size (uw (g i).f0)
    have h1 := num_size (uw (g i).f1)
    have h2 := num_size (uw (g i).f2)
    have hz := enc_size (g i)
    rw [schema_Put.l0, if_pos (by omega), if_pos (by omega), if_pos (by rw [outs_length]; omega), outs_rd g m i (by omega), ma, mb, mc,
      show IntKind.u64.wrap (g i).f0 = uw (g i).f0 from rfl, num_k _ ra.1 ra.2 k (by omega), Option.bind_some,
      show IntKind.u64.wrap (g i).f1 = uw (g i).f1 from rfl, num_k _ rb.1 rb.2 k (by omega), Option.bind_some, if_pos (by omega),
      show IntKind.u64.wrap (g i).f2 = uw (g i).f2 from rfl, num_k _ rc.1 rc.2 k (by omega), Option.bind_some, if_pos (by rw [size_append]; omega), if_pos (by rw [size_append, size_append]; omega),
      w64 (x := (i : Int) + 1) (by omega) (by omega), show (i : Int) + 1 = ((i + 1 : Nat) : Int) by omega, ← enc, ih (i + 1) k _ (by omega) (by omega) (by rw [size_append]; omega), encs, append_assoc]
theorem put_some (g : Nat → S26) (m : Nat) (hm : m ≤ 9) (hg : ∀ j, j < m → nice (g j)) (k : Nat) (hk : 100 ≤ k) : schema_Put.f k (outs g m) = some (num (m : Int) ++ encs g m 0) := by
  have hs := num_size (m : Int)
  unfold schema_Put.f
  rw [outs_length, if_pos (by omega), num_k _ (by omega) (by omega) k (by omega), Option.bind_some]
  exact put_loop g m hm hg m 0 k _ (by omega) (by omega) (by omega)
theorem encs_size (g : Nat → S26) (d : Nat) : ∀ i, (encs g d i).size ≤ 30 * d := by
  induction d with
  | zero => intro i; rw [encs, em_size]; omega
  | succ d ih => intro i; have := ih (i + 1); have h := enc_size (g i); rw [encs, size_append]; omega
end Go.Proofs.Ytehpdkgjclnilaa.Pure
