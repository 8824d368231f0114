/- The plain law of SchemaGets. -/
import Derived.Test.YtehpdkgjclnilaaPureSGet
import Derived.Test.YtehpdkgjclnilaaPSchemaGetsx5
namespace Go.Proofs.Ytehpdkgjclnilaa.Pure
open Go.RowKit Go.Proofs.Ytehpdkgjclnilaa.PSchemaGets Go.Proofs.YtehpdkgjclnilaaW.PrintWords Go.Proofs.YtehpdkgjclnilaaW.PrintLast Go.Proofs.YtehpdkgjclnilaaW.PrintMore Go.Proofs.Ytehpdkgjclnilaa.XB
set_option linter.unusedVariables false
set_option linter.unusedSimpArgs false
/-- an index of few labels and keys -/
def fw (x : S26) : S26 := if x.f2 % 8 = 7 then x else ⟨x.f0 % 8, x.f1 % 8, 1 + x.f2 % 2⟩
theorem and7 (x : Int) : Go.bits .and .i64 x 7 = x % 8 := and_mask64 x 3 (by decide) (by decide)
theorem and1 (x : Int) : Go.bits .and .i64 x 1 = x % 2 := and_mask64 x 1 (by decide) (by decide)
theorem few_some (x : S26) : lodestonelaw25_few.f x.f0 x.f1 x.f2 = some ((fw x).f0, (fw x).f1, (fw x).f2) := by
  unfold lodestonelaw25_few.f fw
  rw [and7, and7, and7, and1]
  by_cases c : x.f2 % 8 = 7
  · rw [if_pos c, if_pos c]
  · rw [if_neg c, if_neg c, w64 (by omega) (by omega)]
theorem fw_or (x : S26) : bad (fw x) ∨ nice (fw x) := by
  unfold fw
  by_cases c : x.f2 % 8 = 7
  · rw [if_pos c]; exact .inl c
  · rw [if_neg c]
    refine .inr ⟨⟨?_, ?_⟩, ⟨?_, ?_⟩, ?_⟩ <;> simp only [] <;> omega
theorem may_some (x : S26) (h : bad x ∨ nice x) : lodestonelaw25_may.f x.f0 x.f1 x.f2 = some (decide (nice x)) := by
  rcases h with h | h
  · have hn : ¬ nice x := fun h1 => by unfold bad at h; have := h1.2.2; omega
    rw [decide_eq_false hn]
    unfold bad at h
    have e1 : ¬ x.f2 = 1 := by omega
    have e2 : (x.f2 == 2) = false := beq_eq_false_iff_ne.mpr (by omega)
    unfold lodestonelaw25_may.f
    rw [if_neg e1, e2]
    simp
  · rw [decide_eq_true h]
    obtain ⟨⟨a0, a1⟩, ⟨b0, b1⟩, hc⟩ := h
    unfold lodestonelaw25_may.f
    rw [if_pos (by omega), if_pos (by omega), if_pos (by omega), if_pos (by omega)]
    rcases hc with h | h
    · rw [if_pos h]
    · rw [if_neg (by omega), h]; rfl
/-- the indexes that are put -/
def gl (l : List S26) (j : Nat) : S26 := fw (rd_T26 l (j : Int))
theorem gl_or (l : List S26) (j : Nat) : bad (gl l j) ∨ nice (gl l j) := fw_or _
theorem few_gl (l : List S26) (j : Nat) : lodestonelaw25_few.f (rd_T26 l (j : Int)).f0 (rd_T26 l (j : Int)).f1 (rd_T26 l (j : Int)).f2 = some ((gl l j).f0, (gl l j).f1, (gl l j).f2) := few_some _
theorem rnum (n : Int) (h0 : 0 ≤ n) (h1 : n < 18446744073709551616) (k : Nat) (hk : 10 ≤ k) : lodestoneref04_Num.f k n = some (num n) := ref_num_some n h0 h1 k hk
theorem build (l : List S26) (by_ : ByteArray) (m : Nat) (h9 : m ≤ 9) (hl : m ≤ l.length) (hm : m = 9 ∨ m = l.length) : ∀ (d i k : Nat) (s : ByteArray), i + d = m → 2 * d + 40 ≤ k → s.size ≤ 1000 * (i + 1) →
    ∃ k', k ≤ k' + 2 * d + 1 ∧ lodestonelaw25_SchemaGets.l0 k l by_ s (i : Int) = lodestonelaw25_SchemaGets.j1 k' l by_ (s ++ encs (gl l) d i) (m : Int) false := by
  intro d
  induction d with
  | zero =>
    intro i k s hi hk hs
    obtain ⟨k, rfl⟩ : ∃ q, k = q + 1 := ⟨k - 1, by omega⟩
    obtain rfl : i = m := by omega
    refine ⟨k, by omega, ?_⟩
    rw [show s ++ encs (gl l) 0 i = s from append_empty s, lodestonelaw25_SchemaGets.l0]
    by_cases c : (i : Int) < (l.length : Int)
    · rw [if_pos c, decide_eq_false (by omega)]
    · rw [if_neg c]
  | succ d ih =>
    intro i k s hi hk hs
    obtain ⟨k, rfl⟩ : ∃ q, k = q + 1 + 1 := ⟨k - 2, by omega⟩
    have ra := uw_range (gl l i).f0
    have rb := uw_range (gl l i).f1
    have rc := uw_range (gl l i).f2
    have h0 := num_size (uw (gl l i).f0)
    have h1 := num_size (uw (gl l i).f1)
    have h2 := num_size (uw (gl l i).f2)
    have hz := enc_size (gl l i)
    obtain ⟨k', hk', e⟩ := ih (i + 1) k (s ++ enc (gl l i)) (by omega) (by omega) (by rw [size_append]; omega)
    refine ⟨k', by omega, ?_⟩
    rw [lodestonelaw25_SchemaGets.l0, if_pos (by omega), decide_eq_true (by omega), lodestonelaw25_SchemaGets.j1, if_pos rfl, if_pos (by omega), if_pos (by omega), few_gl, Option.bind_some]
    dsimp only
    rw [show IntKind.u64.wrap (gl l i).f0 = uw (gl l i).f0 from rfl, rnum _ ra.1 ra.2 k (by omega), Option.bind_some,
      show IntKind.u64.wrap (gl l i).f1 = uw (gl l i).f1 from rfl, rnum _ rb.1 rb.2 k (by omega), Option.bind_some, if_pos (by omega),
      show IntKind.u64.wrap (gl l i).f2 = uw (gl l i).f2 from rfl, rnum _ rc.1 rc.2 k (by omega), Option.bind_some, if_pos (by rw [size_append]; omega), if_pos (by rw [size_append, size_append]; omega),
      w64 (x := (i : Int) + 1) (by omega) (by omega), show (i : Int) + 1 = ((i + 1 : Nat) : Int) by omega, ← enc, e, encs, append_assoc]
def riseB (g : Nat → S26) : Nat → Nat → Bool → Bool
  | 0, _, R => R
  | d + 1, i, R => riseB g d (i + 1) (if 0 < i then R && decide (lt (g (i - 1)) (g i)) else R)
def okB (g : Nat → S26) : Nat → Nat → Bool → Bool
  | 0, _, O => O
  | d + 1, i, O => okB g d (i + 1) (O && decide (nice (g i)))
theorem riseB_iff (g : Nat → S26) (d : Nat) : ∀ (i : Nat) (R : Bool), riseB g d i R = true ↔ R = true ∧ ∀ j, i ≤ j → j < i + d → 0 < j → lt (g (j - 1)) (g j) := by
  induction d with
  | zero => intro i R; exact ⟨fun h => ⟨h, fun j h1 h2 => by omega⟩, fun h => h.1⟩
  | succ d ih =>
    intro i R
    rw [riseB, ih]
    constructor
    · rintro ⟨h1, h2⟩
      refine ⟨?_, fun j a b c => ?_⟩
      · split at h1
        · exact (Bool.and_eq_true_iff.mp h1).1
        · exact h1
      · rcases Nat.eq_or_lt_of_le a with rfl | a
        · rw [if_pos c] at h1; exact of_decide_eq_true (Bool.and_eq_true_iff.mp h1).2
        · exact h2 j a (by omega) c
    · rintro ⟨h1, h2⟩
      refine ⟨?_, fun j a b c => h2 j (by omega) (by omega) c⟩
      split
      · next c => exact Bool.and_eq_true_iff.mpr ⟨h1, decide_eq_true (h2 i (Nat.le_refl _) (by omega) c)⟩
      · exact h1
theorem okB_iff (g : Nat → S26) (d : Nat) : ∀ (i : Nat) (O : Bool), okB g d i O = true ↔ O = true ∧ ∀ j, i ≤ j → j < i + d → nice (g j) := by
  induction d with
  | zero => intro i O; exact ⟨fun h => ⟨h, fun j h1 h2 => by omega⟩, fun h => h.1⟩
  | succ d ih =>
    intro i O
    rw [okB, ih]
    constructor
    · rintro ⟨h1, h2⟩
      refine ⟨(Bool.and_eq_true_iff.mp h1).1, fun j a b => ?_⟩
      rcases Nat.eq_or_lt_of_le a with rfl | a
      · exact of_decide_eq_true (Bool.and_eq_true_iff.mp h1).2
      · exact h2 j a (by omega)
    · rintro ⟨h1, h2⟩
      exact ⟨Bool.and_eq_true_iff.mpr ⟨h1, decide_eq_true (h2 i (Nat.le_refl _) (by omega))⟩, fun j a b => h2 j (by omega) (by omega)⟩
theorem good_iff (g : Nat → S26) (m : Nat) : good g 0 m ↔ riseB g m 0 true = true ∧ okB g m 0 true = true := by
  rw [riseB_iff, okB_iff]
  constructor
  · intro h
    exact ⟨⟨rfl, fun j a b c => (h j a (by omega)).2 c⟩, ⟨rfl, fun j a b => (h j a (by omega)).1⟩⟩
  · rintro ⟨⟨_, h1⟩, ⟨_, h2⟩⟩ j a b
    exact ⟨h2 j a (by omega), fun c => h1 j a (by omega) c⟩
theorem rise_step (l : List S26) (by_ S : ByteArray) (X : List S26) (E : Int) (R O : Bool) (i k : Nat) (hl : i < l.length) (h9 : i < 9) :
    lodestonelaw25_SchemaGets.j4 (k + 1) l by_ S X E R O (i : Int) = lodestonelaw25_SchemaGets.l1 k l by_ S X E (if 0 < i then R && decide (lt (gl l (i - 1)) (gl l i)) else R) O ((i + 1 : Nat) : Int) := by
  have e1 : wrap64 ((i : Int) + 1) = ((i + 1 : Nat) : Int) := by rw [w64 (by omega) (by omega)]; omega
  rw [lodestonelaw25_SchemaGets.j4, e1]
  by_cases c : 0 < i
  · have ei : wrap64 ((i : Int) - 1) = ((i - 1 : Nat) : Int) := by rw [w64 (by omega) (by omega)]; omega
    rw [if_pos (by omega), ei, if_pos (by omega), if_pos (by omega), few_gl, Option.bind_some, if_pos (by omega), if_pos (by omega), few_gl, Option.bind_some, if_pos c]
    dsimp only
    cases R with
    | false => rw [if_neg (by decide)]; rfl
    | true =>
      rw [if_pos rfl, Bool.true_and]
      by_cases c1 : (gl l (i - 1)).f0 < (gl l i).f0
      · rw [if_pos c1, decide_eq_true (show lt (gl l (i - 1)) (gl l i) from .inl c1)]
      · rw [if_neg c1]
        by_cases c2 : (gl l (i - 1)).f0 = (gl l i).f0
        · rw [if_pos c2]
          congr 1
          exact decide_eq_decide.mpr ⟨fun h => show lt (gl l (i - 1)) (gl l i) from .inr ⟨c2, h⟩, fun h => Or.elim (show lt (gl l (i - 1)) (gl l i) from h) (fun h => absurd h c1) (fun h => h.2)⟩
        · rw [if_neg c2, decide_eq_false (fun h => Or.elim (show lt (gl l (i - 1)) (gl l i) from h) c1 (fun h => c2 h.1))]
  · rw [if_neg (by omega), if_neg c]
theorem check (l : List S26) (by_ S : ByteArray) (X : List S26) (E : Int) (m : Nat) (h9 : m ≤ 9) (hl : m ≤ l.length) (hm : m = 9 ∨ m = l.length) : ∀ (d i k : Nat) (R O : Bool), i + d = m → 3 * d + 40 ≤ k →
    ∃ k', k ≤ k' + 3 * d + 1 ∧ lodestonelaw25_SchemaGets.l1 k l by_ S X E R O (i : Int) = lodestonelaw25_SchemaGets.j3 k' l by_ S X E (riseB (gl l) d i R) (okB (gl l) d i O) (m : Int) false := by
  intro d
  induction d with
  | zero =>
    intro i k R O hi hk
    obtain ⟨k, rfl⟩ : ∃ q, k = q + 1 := ⟨k - 1, by omega⟩
    obtain rfl : i = m := by omega
    refine ⟨k, by omega, ?_⟩
    rw [lodestonelaw25_SchemaGets.l1, riseB, okB]
    by_cases c : (i : Int) < (l.length : Int)
    · rw [if_pos c, decide_eq_false (by omega)]
    · rw [if_neg c]
  | succ d ih =>
    intro i k R O hi hk
    obtain ⟨k, rfl⟩ : ∃ q, k = q + 1 + 1 + 1 := ⟨k - 3, by omega⟩
    obtain ⟨k', hk', e⟩ := ih (i + 1) k (if 0 < i then R && decide (lt (gl l (i - 1)) (gl l i)) else R) (O && decide (nice (gl l i))) (by omega) (by omega)
    refine ⟨k', by omega, ?_⟩
    rw [lodestonelaw25_SchemaGets.l1, if_pos (by omega), decide_eq_true (by omega), lodestonelaw25_SchemaGets.j3, if_pos rfl, riseB, okB, ← e]
    cases O with
    | false =>
      rw [if_neg (by decide), rise_step l by_ S X E R false i k (by omega) (by omega), Bool.false_and]
    | true =>
      rw [if_pos rfl, if_pos (by omega), if_pos (by omega), few_gl, Option.bind_some]
      dsimp only
      rw [may_some _ (gl_or l i), Option.bind_some, rise_step l by_ S X E R _ i k (by omega) (by omega), Bool.true_and]
theorem law (l : List S26) (by_ : ByteArray) (hb : by_.size ≤ 140737488355328) : ∃ k, lodestonelaw25_SchemaGets.f k l by_ = some true := by
  obtain ⟨m, hm⟩ : ∃ m : Nat, m = min l.length 9 := ⟨_, rfl⟩
  have h9 : m ≤ 9 := by omega
  have hl : m ≤ l.length := by omega
  have hml : m = 9 ∨ m = l.length := by omega
  have emn : mn (l.length : Int) 9 = (m : Int) := by unfold mn; split <;> omega
  have g1 : 0 ≤ mn (by_.size : Int) 3 := by unfold mn; split <;> omega
  have g2 : mn (by_.size : Int) 3 ≤ (by_.size : Int) := by unfold mn; split <;> omega
  have g3 : mn (by_.size : Int) 3 ≤ 3 := by unfold mn; split <;> omega
  obtain ⟨tail, ht⟩ : ∃ t, by_.extract 0 ((mn (by_.size : Int) 3) : Int).toNat = t := ⟨_, rfl⟩
  have hts : tail.size ≤ 3 := by rw [← ht, ByteArray.size_extract]; omega
  have hte : tail = em ↔ by_.toList = ([] : List UInt8) := by
    constructor
    · intro h
      have h0 : tail.size = 0 := by rw [h]; rfl
      rw [← ht, ByteArray.size_extract] at h0
      have h1 : by_.size = 0 := by
        have : mn (by_.size : Int) 3 = (min by_.size 3 : Nat) := by unfold mn; split <;> omega
        rw [this] at h0
        omega
      rw [size_em h1]; exact em_nil
    · intro h
      have : by_ = em := toList_inj.mp (h.trans em_nil.symm)
      subst this
      rw [← ht]
      exact size_em (by rw [ByteArray.size_extract, em_size]; omega)
  have hns := num_size (m : Int)
  have hes := encs_size (gl l) m 0
  obtain ⟨k1, hk1, e1⟩ := build l by_ m h9 hl hml m 0 1000 (num (m : Int)) (by omega) (by omega) (by omega)
  obtain ⟨k1, rfl⟩ : ∃ q, k1 = q + 1 := ⟨k1 - 1, by omega⟩
  obtain ⟨r, hr, hr1, hr2⟩ := get_some (gl l) m h9 (fun j _ => gl_or l j) tail k1 (by omega)
  obtain ⟨k2, hk2, e2⟩ := check l by_ ((num (m : Int) ++ encs (gl l) m 0) ++ tail) r.1 r.2 m h9 hl hml m 0 k1 true true (by omega) (by omega)
  obtain ⟨k2, rfl⟩ : ∃ q, k2 = q + 1 := ⟨k2 - 1, by omega⟩
  refine ⟨1000, ?_⟩
  unfold lodestonelaw25_SchemaGets.f
  rw [emn, rnum _ (by omega) (by omega) 1000 (by decide), Option.bind_some]
  refine e1.trans ?_
  rw [lodestonelaw25_SchemaGets.j1, if_neg (by decide), if_pos g1, if_pos g2, ht, if_pos (by rw [size_append]; omega), hr, Option.bind_some]
  refine e2.trans ?_
  rw [lodestonelaw25_SchemaGets.j3, if_neg (by decide)]
  have haw : lodestonelaw25_awake.f = some true := rfl
  by_cases hg : good (gl l) 0 m ∧ tail = em
  · have hb := (good_iff (gl l) m).mp hg.1
    rw [hr1 hg, if_pos rfl, haw, Option.bind_some, if_pos rfl, if_pos (hte.mp hg.2), if_pos hb.1, if_pos hb.2]
    dsimp only
    rw [put_some (gl l) m h9 (fun j hj => (hg.1 j (Nat.zero_le _) hj).1) k2 (by omega), Option.bind_some, hg.2, show (num (m : Int) ++ encs (gl l) m 0) ++ em = num (m : Int) ++ encs (gl l) m 0 from append_empty _, beq_self_eq_true]
  · obtain ⟨h1, h2⟩ := hr2 hg
    rw [if_neg h2, haw, Option.bind_some, if_pos rfl, h1, if_pos (show (([] : List S26).length : Int) = 0 from rfl)]
    by_cases cb : by_.toList = ([] : List UInt8)
    · rw [if_pos cb]
      by_cases cr : riseB (gl l) m 0 true = true
      · rw [if_pos cr]
        have co : okB (gl l) m 0 true = false := by
          cases h : okB (gl l) m 0 true with
          | false => rfl
          | true => exact absurd ⟨(good_iff (gl l) m).mpr ⟨cr, h⟩, hte.mpr cb⟩ hg
        rw [co]; rfl
      · rw [if_neg cr]
    · rw [if_neg cb]
theorem law_calls (A : Option Addr) (c : Nat) (l : List S26) (by_ : ByteArray) (w : World) (hr : Kd.C k26 w A l.length l) (hc : l.length ≤ c) (hb : by_.size ≤ 140737488355328) :
    Calls Try.prog 3 #[.slice A l.length c, .string by_] w fun e w' => e = .returned (.bool true) ∧ Below w.heap.size w w' := by
  obtain ⟨k, hk⟩ := law l by_ hb
  exact lodestonelaw25_SchemaGets.calls k A c l by_ true w hr hc hk
end Go.Proofs.Ytehpdkgjclnilaa.Pure
