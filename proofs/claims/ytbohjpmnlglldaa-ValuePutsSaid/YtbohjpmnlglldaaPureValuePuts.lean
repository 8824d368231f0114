/- The plain law of ValuePuts: a value has the document's bytes, and is read again; one that may not be has none. -/
import Derived.Test.YtbohjpmnlglldaaRValuePuts
namespace Go.Proofs.Ytbohjpmnlglldaa.Pure
open Go.RowKit Go.Proofs.Ytbohjpmnlglldaa.PValuePuts Go.Proofs.YtbohjpmnlglldaaW.PrintWords Go.Proofs.YtbohjpmnlglldaaW.PrintLast Go.Proofs.YtbohjpmnlglldaaW.PrintMore Go.Proofs.Ytbohjpmnlglldaa.XB Go.Proofs.Ytbohjpmnlglldaa.RValuePuts
set_option linter.unusedVariables false
set_option linter.unusedSimpArgs false
abbrev em : ByteArray := ⟨#[]⟩
theorem awake_k : lodestonelaw23_awake.f 101 = some true := by decide +kernel
theorem nil_em {s : ByteArray} (h : s.toList = []) : s = em := toList_inj.mp (h.trans ((toList_data em).trans rfl).symm)
theorem em_nil : em.toList = [] := (toList_data em).trans rfl
theorem may_ref (K n : Int) (S : ByteArray) : lodestoneref23_May.f K n S = value_May.f K n S := by
  unfold lodestoneref23_May.f value_May.f
  by_cases c0 : K = 0
  · subst c0
    rw [if_pos rfl, if_pos rfl]
    by_cases c : n = 0
    · subst c; rfl
    · rw [if_neg c, beq_eq_false_iff_ne.mpr c]; rfl
  · rw [if_neg c0, if_neg c0]
    by_cases c1 : K = 1
    · rw [if_pos c1, if_pos c1]
      by_cases c : S.toList = []
      · rw [if_pos c, c]
        by_cases d : n = 0
        · rw [if_pos d, if_pos d]; rfl
        · rw [if_neg d, if_neg d]
          by_cases e : n = 1
          · rw [if_pos e, e]; rfl
          · rw [if_neg e, beq_eq_false_iff_ne.mpr e]
      · rw [if_neg c, beq_eq_false_iff_ne.mpr c, ite_self, ite_self]
    · rw [if_neg c1, if_neg c1]
theorem may_some (K n : Int) (S : ByteArray) : ∃ b, value_May.f K n S = some b ∧ (b = true → (K = 0 ∧ n = 0 ∧ S = em) ∨ (K = 1 ∧ (n = 0 ∨ n = 1) ∧ S = em) ∨ (K = 2 ∧ S = em) ∨ (K = 3 ∧ n = 0 ∧ S.size ≤ 2000)) := by
  unfold value_May.f
  by_cases c0 : K = 0
  · refine ⟨_, if_pos c0, fun h => .inl ?_⟩
    simp only [Bool.and_eq_true, beq_iff_eq] at h
    exact ⟨c0, h.2.1, nil_em h.2.2⟩
  · rw [if_neg c0]
    by_cases c1 : K = 1
    · rw [if_pos c1]
      by_cases c : S.toList = []
      · rw [if_pos c]
        by_cases d : n = 0
        · exact ⟨_, if_pos d, fun _ => .inr (.inl ⟨c1, .inl d, nil_em c⟩)⟩
        · exact ⟨_, if_neg d, fun h => .inr (.inl ⟨c1, .inr (beq_iff_eq.mp h), nil_em c⟩)⟩
      · exact ⟨_, if_neg c, fun h => absurd h (by decide)⟩
    · rw [if_neg c1]
      by_cases c2 : K = 2
      · exact ⟨_, if_pos c2, fun h => .inr (.inr (.inl ⟨c2, nil_em (beq_iff_eq.mp h)⟩))⟩
      · rw [if_neg c2]
        by_cases c3 : K = 3
        · rw [if_pos c3]
          by_cases d : n = 0
          · exact ⟨_, if_pos d, fun h => .inr (.inr (.inr ⟨c3, d, by have := of_decide_eq_true h; omega⟩))⟩
          · exact ⟨_, if_neg d, fun h => absurd h (by decide)⟩
        · exact ⟨_, if_neg c3, fun h => absurd h (by decide)⟩
theorem words_ref (K n : Int) (S : ByteArray) : lodestoneref23_Words.f K n S = value_Words.f K n S := by
  unfold lodestoneref23_Words.f value_Words.f
  rw [may_ref]
  obtain ⟨b, hb, hc⟩ := may_some K n S
  rw [hb, Option.bind_some, Option.bind_some]
  cases b with
  | false => rfl
  | true =>
    rw [if_pos rfl, if_pos rfl]
    rcases hc rfl with ⟨rfl, _⟩ | ⟨rfl, _⟩ | ⟨rfl, _⟩ | ⟨rfl, _⟩ <;> rfl
theorem words_some (K n : Int) (S : ByteArray) : ∃ b, value_Words.f K n S = some b := by
  unfold value_Words.f
  obtain ⟨b, hb, hc⟩ := may_some K n S
  rw [hb, Option.bind_some]
  cases b with
  | false => exact ⟨_, rfl⟩
  | true =>
    rw [if_pos rfl]
    by_cases c : K = 0
    · exact ⟨_, if_pos c⟩
    · exact ⟨_, if_neg c⟩
theorem j1_one (K n : Int) (S s : ByteArray) (hs : s.toList ≠ []) : lodestonelaw23_ValuePuts.j1 101 s false K n S em 0 K n S = some true := by
  rw [show (101 : Nat) = 100 + 1 from rfl, lodestonelaw23_ValuePuts.j1]
  rw [if_neg (by decide), if_neg hs]
  have he : code_Reader_End.f em 0 = some (0, em, 0) := by decide +kernel
  have hq : (K == K && (n == n && (S.toList == S.toList))) = true := by simp
  rw [he, Option.bind_some, if_pos rfl, if_pos hq]
  unfold value_Same.f
  rw [Option.bind_some, hq]
/-- a value that may be -/
theorem fin (K n : Int) (S s : ByteArray) (hm : value_May.f K n S = some true) (hp : value_Put.f 101 K n S = some s) (hs : s.toList ≠ []) (ht : value_Take.f 101 s 0 = some (K, n, S, em, 0)) (hr : lodestoneref23_Put.f 101 K n S = some s) :
    lodestonelaw23_ValuePuts.j0 102 K n S = some true := by
  obtain ⟨b, hb⟩ := words_some K n S
  rw [show (102 : Nat) = 101 + 1 from rfl, lodestonelaw23_ValuePuts.j0]
  have hb2 : (b != b) = false := by cases b <;> rfl
  rw [hp, Option.bind_some]
  unfold code_Read.f
  rw [Option.bind_some, ht, Option.bind_some, awake_k, Option.bind_some, if_pos rfl, hr, Option.bind_some, if_pos rfl, hm, Option.bind_some, may_ref, hm, Option.bind_some, if_neg (by decide), hb, Option.bind_some, words_ref, hb, Option.bind_some, hb2, j1_one K n S s hs]
theorem none_j0 (K n : Int) (S : ByteArray) (hm : value_May.f K n S = some false) : lodestonelaw23_ValuePuts.j0 102 K n S = some true := by
  obtain ⟨b, hb⟩ := words_some K n S
  have hb2 : (b != b) = false := by cases b <;> rfl
  have hp : value_Put.f 101 K n S = some em := by unfold value_Put.f; rw [hm, Option.bind_some, if_neg (by decide)]
  have hr : lodestoneref23_Put.f 101 K n S = some em := by unfold lodestoneref23_Put.f; rw [may_ref, hm, Option.bind_some, if_neg (by decide)]
  have ht : value_Take.f 101 em 0 = some (0, 0, em, em, 2) := by decide +kernel
  rw [show (102 : Nat) = 101 + 1 from rfl, lodestonelaw23_ValuePuts.j0]
  rw [hp, Option.bind_some]
  unfold code_Read.f
  rw [Option.bind_some, ht, Option.bind_some, awake_k, Option.bind_some, if_pos rfl, hr, Option.bind_some, if_pos rfl, hm, Option.bind_some, may_ref, hm, Option.bind_some, if_neg (by decide), hb, Option.bind_some, words_ref, hb, Option.bind_some, hb2]
  rw [show (101 : Nat) = 100 + 1 from rfl, lodestonelaw23_ValuePuts.j1]
  rw [if_neg (by decide), if_pos em_nil, if_pos (by simp [em_nil])]
theorem app_ne {a b : ByteArray} (h : 0 < a.size) : (a ++ b).toList ≠ [] := fun e => by
  have h2 := congrArg ByteArray.size (nil_em e)
  rw [ByteArray.size_append] at h2
  have h3 : em.size = 0 := rfl
  omega
theorem one_byte (a : Int) (b : ByteArray) : strOfNums [a] ++ b = strOfNums [a] ++ (b ++ em) := by rw [append_empty]
theorem big_j0 (n : Int) (h0 : -9223372036854775808 ≤ n) (h1 : n < 9223372036854775808) : lodestonelaw23_ValuePuts.j0 102 2 n em = some true := by
  obtain ⟨u, hu⟩ : ∃ u, IntKind.u64.wrap n = u := ⟨_, rfl⟩
  have hun : u = n % 18446744073709551616 := by rw [← hu, wu64]
  have hw : wrap64 u = n := by unfold wrap64; omega
  have hb := be_length 8 u
  have hs1 : (strOfNums [2 % 256]).size = 1 := by rw [strOfNums_size]; rfl
  have hs8 : (strOfNums (be 8 u)).size = 8 := by rw [strOfNums_size, hb]
  have hm : value_May.f 2 n em = some true := by unfold value_May.f; rw [if_neg (by decide), if_neg (by decide), if_pos rfl, em_nil]; rfl
  have hp : value_Put.f 101 2 n em = some (strOfNums [2] ++ strOfNums (be 8 u)) := by
    unfold value_Put.f
    rw [hm, Option.bind_some, if_pos rfl, Option.bind_some, if_neg (by decide), if_pos rfl, hu, big_some u (by omega) (by omega), Option.bind_some, if_pos (by omega)]
    rfl
  have hr : lodestoneref23_Put.f 101 2 n em = some (strOfNums [2] ++ strOfNums (be 8 u)) := by
    unfold lodestoneref23_Put.f
    rw [may_ref, hm, Option.bind_some, if_pos rfl, Option.bind_some, if_neg (by decide), if_pos rfl, hu, high_some u 8 8 rfl (by decide) (by omega) (by omega) 101 (by decide), Option.bind_some, if_pos (by omega)]
    rfl
  have ht : value_Take.f 101 (strOfNums [2] ++ strOfNums (be 8 u)) 0 = some (2, n, em, em, 0) := by
    have h2 : code_Reader_Num.f 101 (strOfNums [2] ++ strOfNums (be 8 u)) 0 3 = some (2, strOfNums (be 8 u), 0) := num_reads 2 3 (by decide) (by decide) (by decide) _ 101 (by decide)
    have h8 : code_Reader_Big.f (strOfNums (be 8 u)) 0 = some (u, em, 0) := by
      have h := big_reads u (by omega) (by omega) em
      rw [append_empty] at h
      exact h
    unfold value_Take.f
    rw [h2, Option.bind_some, show wrap64 ((2 : Int), strOfNums (be 8 u), (0 : Int)).1 = 2 from (w64 (by decide) (by decide) : wrap64 2 = 2), if_neg (by decide), if_pos rfl, h8, Option.bind_some]
    unfold code_Reader_Err.f
    rw [Option.bind_some, if_pos rfl, hw]
  exact fin 2 n em _ hm hp (app_ne (by rw [strOfNums_size]; decide)) ht hr
theorem text_j0 (S : ByteArray) (hS : S.size ≤ 2000) : lodestonelaw23_ValuePuts.j0 102 3 0 S = some true := by
  obtain ⟨T, hT⟩ : ∃ T, strOfNums (leb 10 (S.size : Int)) = T := ⟨_, rfl⟩
  have hTs : T.size ≤ 10 := by rw [← hT, strOfNums_size]; exact leb_length 10 _
  have hs1 : (strOfNums [3 % 256]).size = 1 := by rw [strOfNums_size]; rfl
  have hTS : (T ++ S).size = T.size + S.size := ByteArray.size_append
  have hm : value_May.f 3 0 S = some true := by
    unfold value_May.f
    rw [if_neg (by decide), if_neg (by decide), if_neg (by decide), if_pos rfl, if_pos rfl, decide_eq_true (by omega)]
  have hx : code_Text.f 101 S = some (T ++ S) := by rw [text_some S (by omega) 101 (by decide), hT]
  have hy : lodestoneref04_Text.f 101 S = some (T ++ S) := by
    unfold lodestoneref04_Text.f
    rw [if_pos (by omega), ref_num_some (S.size : Int) (by omega) (by omega) 101 (by decide), Option.bind_some, hT, if_pos (by omega)]
  have hp : value_Put.f 101 3 0 S = some (strOfNums [3] ++ (T ++ S)) := by
    unfold value_Put.f
    rw [hm, Option.bind_some, if_pos rfl, Option.bind_some, if_neg (by decide), if_neg (by decide), if_pos rfl, hx, Option.bind_some, if_pos (by omega)]
    rfl
  have hr : lodestoneref23_Put.f 101 3 0 S = some (strOfNums [3] ++ (T ++ S)) := by
    unfold lodestoneref23_Put.f
    rw [may_ref, hm, Option.bind_some, if_pos rfl, Option.bind_some, if_neg (by decide), if_neg (by decide), if_pos rfl, hy, Option.bind_some, if_pos (by omega)]
    rfl
  have ht : value_Take.f 101 (strOfNums [3] ++ (T ++ S)) 0 = some (3, 0, S, em, 0) := by
    have h2 : code_Reader_Num.f 101 (strOfNums [3] ++ (T ++ S)) 0 3 = some (3, T ++ S, 0) := num_reads 3 3 (by decide) (by decide) (by decide) _ 101 (by decide)
    have h8 : code_Reader_Text.f 101 (T ++ S) 0 2000 = some (S, em, 0) := by
      have h := text_reads S em 2000 (by omega) (by omega) 101 (by decide)
      rw [append_empty, hT] at h
      exact h
    unfold value_Take.f
    rw [h2, Option.bind_some, show wrap64 ((3 : Int), T ++ S, (0 : Int)).1 = 3 from (w64 (by decide) (by decide) : wrap64 3 = 3), if_neg (by decide), if_neg (by decide), if_pos rfl, h8, Option.bind_some]
    unfold code_Reader_Err.f
    rw [Option.bind_some, if_pos rfl]
  exact fin 3 0 S _ hm hp (app_ne (by rw [strOfNums_size]; decide)) ht hr
theorem any_j0 (K n : Int) (S : ByteArray) (h0 : -9223372036854775808 ≤ n) (h1 : n < 9223372036854775808) : lodestonelaw23_ValuePuts.j0 102 K n S = some true := by
  obtain ⟨b, hb, hc⟩ := may_some K n S
  cases b with
  | false => exact none_j0 K n S hb
  | true =>
    rcases hc rfl with ⟨rfl, rfl, rfl⟩ | ⟨rfl, rfl | rfl, rfl⟩ | ⟨rfl, rfl⟩ | ⟨rfl, rfl, hS⟩
    · decide +kernel
    · decide +kernel
    · decide +kernel
    · exact big_j0 n h0 h1
    · exact text_j0 S hS
theorem and7 (x : Int) : ∃ q : Int, Go.bits .and .i64 x 7 = q ∧ 0 ≤ q ∧ q < 8 := by
  have h : Go.bits .and .i64 x ((2 ^ 3 - 1 : Nat) : Int) = x % ((2 ^ 3 : Nat) : Int) := and_mask64 x 3 (by decide) (by decide)
  have h2 : Go.bits .and .i64 x 7 = x % 8 := h
  exact ⟨_, h2, by omega, by omega⟩
theorem cut_some (S : ByteArray) (m : Int) (hm : 0 ≤ m) : 0 ≤ mn (S.size : Int) m ∧ mn (S.size : Int) m ≤ (S.size : Int) ∧ (S.extract 0 (mn (S.size : Int) m).toNat).size ≤ m := by
  have g1 : 0 ≤ mn (S.size : Int) m := by unfold mn; split <;> omega
  have g2 : mn (S.size : Int) m ≤ (S.size : Int) := by unfold mn; split <;> omega
  have g3 : mn (S.size : Int) m ≤ m := by unfold mn; split <;> omega
  exact ⟨g1, g2, by rw [ByteArray.size_extract]; omega⟩
theorem near_some (K n : Int) (S : ByteArray) (h0 : -9223372036854775808 ≤ n) (h1 : n < 9223372036854775808) :
    ∃ x : Int × Int × ByteArray, lodestonelaw23_Near.f 102 K n S = some x ∧ -9223372036854775808 ≤ x.2.1 ∧ x.2.1 < 9223372036854775808 ∧ x.2.2.size ≤ 2100 := by
  obtain ⟨q, hq, q0, q8⟩ := and7 K
  have ha : Go.bits .and .i64 n 1 = n % 2 := and_mask64 n 1 (by decide) (by decide)
  obtain ⟨a1, a2, a3⟩ := cut_some S 60 (by decide)
  obtain ⟨b1, b2, b3⟩ := cut_some S 2100 (by decide)
  have he : em.size = 0 := rfl
  have hj : ∀ b : Bool, ∃ x : Int × Int × ByteArray, lodestonelaw23_Near.j0 102 q b K n S = some x ∧ -9223372036854775808 ≤ x.2.1 ∧ x.2.1 < 9223372036854775808 ∧ x.2.2.size ≤ 2100 := by
    intro b
    rw [show (102 : Nat) = 101 + 1 from rfl, lodestonelaw23_Near.j0]
    by_cases c : b = true
    · exact ⟨_, if_pos c, h0, h1, by show em.size ≤ 2100; omega⟩
    · rw [if_neg c]
      by_cases c4 : q = 4
      · rw [if_pos c4, if_pos a1, if_pos a2]
        exact ⟨_, rfl, (by decide : (-9223372036854775808 : Int) ≤ 0), (by decide : (0 : Int) < 9223372036854775808), by show (S.extract 0 _).size ≤ 2100; omega⟩
      · rw [if_neg c4]
        by_cases c5 : q = 5
        · rw [if_pos c5, if_pos a1, if_pos a2]
          exact ⟨_, rfl, (by decide : (-9223372036854775808 : Int) ≤ 0), (by decide : (0 : Int) < 9223372036854775808), by show (S.extract 0 _).size ≤ 2100; omega⟩
        · rw [if_neg c5]
          by_cases c6 : q = 6
          · rw [if_pos c6, if_pos a1, if_pos a2]
            exact ⟨_, rfl, (by decide : (-9223372036854775808 : Int) ≤ 0), (by decide : (0 : Int) < 9223372036854775808), by show (S.extract 0 _).size ≤ 2100; omega⟩
          · rw [if_neg c6, if_pos b1, if_pos b2]
            exact ⟨_, rfl, h0, h1, by show (S.extract 0 _).size ≤ 2100; omega⟩
  unfold lodestonelaw23_Near.f
  rw [hq, ha]
  by_cases c0 : q = 0
  · exact ⟨_, if_pos c0, by decide, by decide, by show em.size ≤ 2100; omega⟩
  · rw [if_neg c0]
    by_cases c1 : q = 1
    · exact ⟨_, if_pos c1, by show _ ≤ n % 2; omega, by show n % 2 < _; omega, by show em.size ≤ 2100; omega⟩
    · rw [if_neg c1]
      by_cases c2 : q = 2
      · rw [if_pos c2]; exact hj _
      · rw [if_neg c2]; exact hj _
theorem law (K n : Int) (S : ByteArray) (l : Int) (hn : (Lit.int .i64 n).wf = true) : lodestonelaw23_ValuePuts.f 102 K n S l = some true := by
  have h1 : IntKind.i64.min = -9223372036854775808 := rfl
  have h2 : IntKind.i64.max = 9223372036854775807 := rfl
  simp only [Lit.wf, Bool.and_eq_true, decide_eq_true_eq] at hn
  obtain ⟨⟨K', n', S'⟩, hx, x0, x1, x2⟩ := near_some K n S (by omega) (by omega)
  simp only at x0 x1 x2
  unfold lodestonelaw23_ValuePuts.f
  rw [hx, Option.bind_some]
  by_cases c : K' = 3
  · have ha : Go.bits .and .i64 l ((2 ^ 11 - 1 : Nat) : Int) = l % ((2 ^ 11 : Nat) : Int) := and_mask64 l 11 (by decide) (by decide)
    have hb : Go.bits .and .i64 l 2047 = l % 2048 := ha
    obtain ⟨q, hq⟩ : ∃ q, l % 2048 = q := ⟨_, rfl⟩
    rw [if_pos c, hb, hq, if_pos (by omega), if_pos (by omega), Option.bind_some, if_pos (by rw [strOfNums_size, List.length_replicate]; show S'.size + _ ≤ _; omega)]
    exact any_j0 K' n' _ x0 x1
  · rw [if_neg c]
    exact any_j0 K' n' _ x0 x1
end Go.Proofs.Ytbohjpmnlglldaa.Pure
