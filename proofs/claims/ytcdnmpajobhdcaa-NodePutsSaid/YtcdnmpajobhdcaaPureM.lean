/- What may be: the program's answer and the document's are the same. -/
import Derived.Test.YtcdnmpajobhdcaaNdC
import Derived.Test.YtcdnmpajobhdcaaLeq
import Derived.Test.YtcdnmpajobhdcaaPNodePutsx7
import Derived.Test.YtcdnmpajobhdcaaXB
namespace Go.Proofs.Ytcdnmpajobhdcaa.Pure
open Go.RowKit Go.Proofs.Ytcdnmpajobhdcaa.PNodePuts Go.Proofs.Ytcdnmpajobhdcaa.Nd Go.Proofs.YtcdnmpajobhdcaaW.PrintWords Go.Proofs.YtcdnmpajobhdcaaW.PrintLast Go.Proofs.YtcdnmpajobhdcaaW.PrintMore Go.Proofs.Ytcdnmpajobhdcaa.XB
set_option linter.unusedVariables false
set_option linter.unusedSimpArgs false
/-- the key that stands so far on -/
def ky (xs : List ByteArray) (i : Nat) : ByteArray := xs.getD i ByteArray.empty
/-- a key that may stand there -/
def kyOk (xs : List ByteArray) (i : Nat) : Prop := (ky xs i).size ≤ 96 ∧ (0 < i → Op.bytesLess (ky xs (i - 1)).toList (ky xs i).toList = true)
def enOk (x : S43) : Prop := x.f0.toList ≠ [] ∧ x.f1.size ≤ 80
def kdOk (x : S41) : Prop := 0 ≤ x.f1.f0 ∧ x.f1.f0 < 4096 ∧ x.f1.f1.size = 32
def okN (es : List S43) (ks : List S41) : Prop :=
  (∀ i, i < (keysL es ks).length → kyOk (keysL es ks) i) ∧ (∀ i, i < es.length → enOk (rd_T43 es (i : Int))) ∧ (∀ i, i < ks.length → kdOk (rd_T41 ks (i : Int))) ∧ (es.length = 0 ↔ ks.length ≠ 0)
theorem less_irr (x : List UInt8) : Op.bytesLess x x = false := by
  have h := leq_not x x
  rw [beq_self_eq_true, Bool.or_true] at h
  cases hx : Op.bytesLess x x with
  | false => rfl
  | true => rw [hx] at h; exact absurd h (by decide)
theorem less_iff (x y : List UInt8) : Op.bytesLess x y = true ↔ Op.bytesLess y x = false ∧ y ≠ x := by
  have h := leq_not x y
  constructor
  · intro c
    rw [c, Bool.true_or] at h
    refine ⟨by cases hy : Op.bytesLess y x with | false => rfl | true => rw [hy] at h; exact absurd h (by decide), fun e => ?_⟩
    subst e
    rw [less_irr] at c
    exact absurd c (by decide)
  · rintro ⟨c, e⟩
    rw [c] at h
    have : (x == y) = false := beq_eq_false_iff_ne.mpr (fun h => e h.symm)
    rw [this, Bool.or_false] at h
    exact h
theorem idx_lg (n : Nat) (f : Nat → ByteArray) : (!decide (0 ≤ lgIdx n f)) = true ↔ ∀ i, i < n → lgAt f i = false := by
  unfold lgIdx
  cases h : (List.range n).find? (lgAt f) with
  | none =>
    refine ⟨fun _ i hi => ?_, fun _ => rfl⟩
    have := List.find?_eq_none.mp h i (List.mem_range.mpr hi)
    simpa using this
  | some j =>
    have h1 := List.find?_some h
    have h2 := List.mem_range.mp (List.mem_of_find?_eq_some h)
    refine ⟨fun hd => ?_, fun hd => ?_⟩
    · rw [decide_eq_true (Int.natCast_nonneg j)] at hd; exact absurd hd (by decide)
    · rw [hd j h2] at h1; exact absurd h1 (by decide)
theorem idx_en (n : Nat) (f g : Nat → ByteArray) : (!decide (0 ≤ enIdx n f g)) = true ↔ ∀ i, i < n → enAt f g i = false := by
  unfold enIdx
  cases h : (List.range n).find? (enAt f g) with
  | none =>
    refine ⟨fun _ i hi => ?_, fun _ => rfl⟩
    have := List.find?_eq_none.mp h i (List.mem_range.mpr hi)
    simpa using this
  | some j =>
    have h1 := List.find?_some h
    have h2 := List.mem_range.mp (List.mem_of_find?_eq_some h)
    refine ⟨fun hd => ?_, fun hd => ?_⟩
    · rw [decide_eq_true (Int.natCast_nonneg j)] at hd; exact absurd hd (by decide)
    · rw [hd j h2] at h1; exact absurd h1 (by decide)
theorem idx_kd (n : Nat) (f : Nat → ByteArray) (g : Nat → Int) (s : Nat → ByteArray) : (!decide (0 ≤ kdIdx n f g s)) = true ↔ ∀ i, i < n → kdAt f g s i = false := by
  unfold kdIdx
  cases h : (List.range n).find? (kdAt f g s) with
  | none =>
    refine ⟨fun _ i hi => ?_, fun _ => rfl⟩
    have := List.find?_eq_none.mp h i (List.mem_range.mpr hi)
    simpa using this
  | some j =>
    have h1 := List.find?_some h
    have h2 := List.mem_range.mp (List.mem_of_find?_eq_some h)
    refine ⟨fun hd => ?_, fun hd => ?_⟩
    · rw [decide_eq_true (Int.natCast_nonneg j)] at hd; exact absurd hd (by decide)
    · rw [hd j h2] at h1; exact absurd h1 (by decide)
theorem sorted_iff (n : Nat) (f : Nat → ByteArray) : sortedB n f = true ↔ ∀ i, i + 1 < n → Op.bytesLess (f (i + 1)).toList (f i).toList = false := by
  refine ⟨fun h i hi => ?_, sorted_true n f⟩
  cases hb : Op.bytesLess (f (i + 1)).toList (f i).toList with
  | false => rfl
  | true => rw [sorted_false n f i hi hb] at h; exact absurd h (by decide)
theorem stay_iff (n : Nat) (f : Nat → ByteArray) : stay n f = n ↔ ∀ i, i + 1 < n → (f (i + 1)).toList ≠ (f i).toList := by
  have hl : (Lib.strsOf f n).length = n := Lib.strsOf_length f n
  have hg : ∀ i, i < n → (Lib.strsOf f n)[i]! = (f i).toList := fun i hi => by
    rw [getElem!_pos (Lib.strsOf f n) i (by rw [hl]; exact hi)]
    simp [Lib.strsOf, toList_data]
  have h := compact_len (Lib.strsOf f n)
  rw [hl] at h
  unfold stay
  refine h.trans ⟨fun h i hi => ?_, fun h i hi => ?_⟩
  · have := h i hi; rwa [hg _ hi, hg _ (by omega)] at this
  · rw [hg _ hi, hg _ (by omega)]; exact h i hi
theorem rises_iff (xs : List ByteArray) : risesL xs = true ↔ ∀ i, i < xs.length → kyOk xs i := by
  unfold risesL risesB
  rw [Bool.and_eq_true, Bool.and_eq_true, idx_lg, sorted_iff, decide_eq_true_eq, stay_iff]
  constructor
  · rintro ⟨h1, h2, h3⟩ i hi
    refine ⟨?_, fun hp => ?_⟩
    · have := of_decide_eq_false (show decide ((96 : Int) < ((ky xs i).size : Int)) = false from h1 i hi)
      omega
    · obtain ⟨q, rfl⟩ : ∃ q, i = q + 1 := ⟨i - 1, by omega⟩
      exact (less_iff _ _).mpr ⟨h2 q hi, h3 q hi⟩
  · intro h
    refine ⟨fun i hi => ?_, fun i hi => ?_, fun i hi => ?_⟩
    · have := (h i hi).1
      exact decide_eq_false (show ¬ ((96 : Int) < ((ky xs i).size : Int)) by omega)
    · exact ((less_iff _ _).mp ((h (i + 1) hi).2 (Nat.succ_pos i))).1
    · exact ((less_iff _ _).mp ((h (i + 1) hi).2 (Nat.succ_pos i))).2
theorem badE_iff (es : List S43) : (!badE es) = true ↔ ∀ i, i < es.length → enOk (rd_T43 es (i : Int)) := by
  unfold badE
  rw [idx_en]
  have key : ∀ x : S43, enB x.f0 x.f1 = false ↔ enOk x := fun x => by
    unfold enB enOk
    rw [Bool.or_eq_false_iff, decide_eq_false_iff_not, beq_eq_false_iff_ne]
    constructor
    · rintro ⟨a, b⟩; exact ⟨a, by omega⟩
    · rintro ⟨a, b⟩; exact ⟨a, by omega⟩
  exact ⟨fun h i hi => (key _).mp (h i hi), fun h i hi => (key _).mpr (h i hi)⟩
theorem badK_iff (ks : List S41) : (!badK ks) = true ↔ ∀ i, i < ks.length → kdOk (rd_T41 ks (i : Int)) := by
  unfold badK
  rw [idx_kd]
  have key : ∀ x : S41, kdB x.f0 x.f1.f0 x.f1.f1 = false ↔ kdOk x := fun x => by
    unfold kdB kdOk
    rw [Bool.or_eq_false_iff, Bool.or_eq_false_iff, decide_eq_false_iff_not, decide_eq_false_iff_not, bne_eq_false_iff_eq]
    constructor
    · rintro ⟨a, b, c⟩; exact ⟨by omega, by omega, by omega⟩
    · rintro ⟨a, b, c⟩; exact ⟨by omega, by omega, by omega⟩
  exact ⟨fun h i hi => (key _).mp (h i hi), fun h i hi => (key _).mpr (h i hi)⟩
theorem may_iff (es : List S43) (ks : List S41) : mayB es ks = true ↔ okN es ks := by
  unfold mayB okN
  rw [Bool.and_eq_true, Bool.and_eq_true, Bool.and_eq_true, rises_iff, badE_iff, badK_iff]
  have h : (!(decide (0 < es.length) == decide (0 < ks.length))) = true ↔ (es.length = 0 ↔ ks.length ≠ 0) := by
    rcases Nat.eq_zero_or_pos es.length with c | c <;> rcases Nat.eq_zero_or_pos ks.length with d | d
    · rw [c, d]; decide
    · rw [c, decide_eq_true d]; refine ⟨fun _ => ⟨fun _ => by omega, fun _ => rfl⟩, fun _ => rfl⟩
    · rw [d, decide_eq_true c]; refine ⟨fun _ => ⟨fun h => by omega, fun h => absurd rfl h⟩, fun _ => rfl⟩
    · rw [decide_eq_true c, decide_eq_true d]; refine ⟨fun h => absurd h (by decide), fun h => by omega⟩
  rw [h]
  exact ⟨fun ⟨a, b, c, d⟩ => ⟨b, c, d, a⟩, fun ⟨b, c, d, a⟩ => ⟨a, b, c, d⟩⟩
/-! the document's answer -/
theorem rkeys_l1 (es : List S43) (ks : List S41) (h1 : ks.length ≤ 100) : ∀ (d i k : Nat) (acc : List ByteArray), i + d = ks.length → d + 1 ≤ k → acc.length + d ≤ 1000 →
    lodestoneref17_Keys.l1 k acc (i : Int) es ks = some (acc ++ (ks.drop i).map (fun x => x.f0)) := by
  intro d
  induction d with
  | zero =>
    intro i k acc hi hk ha
    obtain ⟨k, rfl⟩ : ∃ m, k = m + 1 := ⟨k - 1, by omega⟩
    rw [lodestoneref17_Keys.l1, if_neg (by omega), List.drop_of_length_le (by omega), List.map_nil, List.append_nil]
  | succ d ih =>
    intro i k acc hi hk ha
    obtain ⟨k, rfl⟩ : ∃ m, k = m + 1 := ⟨k - 1, by omega⟩
    have hlt : i < ks.length := by omega
    have hw : wrap64 ((i : Int) + 1) = ((i + 1 : Nat) : Int) := by unfold wrap64; omega
    have hr : rd_T41 ks (i : Int) = ks[i] := by rw [rd_T41, Int.toNat_natCast, List.getD_eq_getElem?_getD, List.getElem?_eq_getElem hlt]; rfl
    rw [lodestoneref17_Keys.l1, if_pos (by omega), if_pos (by omega), if_pos (by omega), hw, ih (i + 1) k _ (by omega) (by omega) (by rw [List.length_append]; show acc.length + 1 + d ≤ 1000; omega), hr, List.drop_eq_getElem_cons hlt, List.map_cons, List.append_assoc]
    rfl
theorem rkeys_l0 (es : List S43) (ks : List S41) (h0 : es.length ≤ 100) (h1 : ks.length ≤ 100) : ∀ (d i k : Nat) (acc : List ByteArray), i + d = es.length → d + 110 ≤ k → acc.length + d ≤ 500 →
    lodestoneref17_Keys.l0 k acc (i : Int) es ks = some (acc ++ ((es.drop i).map (fun x => x.f0) ++ ks.map (fun x => x.f0))) := by
  intro d
  induction d with
  | zero =>
    intro i k acc hi hk ha
    obtain ⟨k, rfl⟩ : ∃ m, k = m + 1 := ⟨k - 1, by omega⟩
    have := rkeys_l1 es ks h1 ks.length 0 k acc (by omega) (by omega) (by omega)
    rw [lodestoneref17_Keys.l0, if_neg (by omega), List.drop_of_length_le (by omega), List.map_nil, List.nil_append]
    rw [List.drop_zero] at this
    exact this
  | succ d ih =>
    intro i k acc hi hk ha
    obtain ⟨k, rfl⟩ : ∃ m, k = m + 1 := ⟨k - 1, by omega⟩
    have hlt : i < es.length := by omega
    have hw : wrap64 ((i : Int) + 1) = ((i + 1 : Nat) : Int) := by unfold wrap64; omega
    have hr : rd_T43 es (i : Int) = es[i] := by rw [rd_T43, Int.toNat_natCast, List.getD_eq_getElem?_getD, List.getElem?_eq_getElem hlt]; rfl
    rw [lodestoneref17_Keys.l0, if_pos (by omega), if_pos (by omega), if_pos (by omega), hw, ih (i + 1) k _ (by omega) (by omega) (by rw [List.length_append]; show acc.length + 1 + d ≤ 500; omega), hr, List.drop_eq_getElem_cons hlt, List.map_cons, List.append_assoc]
    rfl
theorem rkeys_k (es : List S43) (ks : List S41) (h0 : es.length ≤ 100) (h1 : ks.length ≤ 100) (k : Nat) (hk : 250 ≤ k) : lodestoneref17_Keys.f k es ks = some (keysL es ks) := by
  have := rkeys_l0 es ks h0 h1 es.length 0 k [] (by omega) (by omega) (by show 0 + es.length ≤ 500; omega)
  rw [List.drop_zero, List.nil_append] at this
  exact this
theorem rmay_l2 (es : List S43) (ks : List S41) (h0 : es.length ≤ 100) (h1 : ks.length ≤ 100) : ∀ (d i k : Nat), i + d = ks.length → d + 1 ≤ k →
    ∃ b, lodestoneref17_May.l2 k (i : Int) es ks = some b ∧ (b = true ↔ ((∀ j, i ≤ j → j < ks.length → kdOk (rd_T41 ks (j : Int))) ∧ (es.length = 0 ↔ ks.length ≠ 0))) := by
  intro d
  induction d with
  | zero =>
    intro i k hi hk
    obtain ⟨k, rfl⟩ : ∃ m, k = m + 1 := ⟨k - 1, by omega⟩
    refine ⟨_, by rw [lodestoneref17_May.l2, if_neg (by omega)], ?_⟩
    have hx : (((es.length : Int) == 0) != ((ks.length : Int) == 0)) = true ↔ (es.length = 0 ↔ ks.length ≠ 0) := by
      rcases Nat.eq_zero_or_pos es.length with c | c <;> rcases Nat.eq_zero_or_pos ks.length with d | d
      · rw [c, d]; decide
      · rw [c, beq_eq_false_iff_ne.mpr (show (ks.length : Int) ≠ 0 by omega)]; refine ⟨fun _ => ⟨fun _ => by omega, fun _ => rfl⟩, fun _ => rfl⟩
      · rw [d, beq_eq_false_iff_ne.mpr (show (es.length : Int) ≠ 0 by omega)]; refine ⟨fun _ => ⟨fun h => by omega, fun h => absurd rfl h⟩, fun _ => rfl⟩
      · rw [beq_eq_false_iff_ne.mpr (show (es.length : Int) ≠ 0 by omega), beq_eq_false_iff_ne.mpr (show (ks.length : Int) ≠ 0 by omega)]; refine ⟨fun h => absurd h (by decide), fun h => by omega⟩
    rw [hx]
    exact ⟨fun h => ⟨fun j a b => absurd b (by omega), h⟩, fun h => h.2⟩
  | succ d ih =>
    intro i k hi hk
    obtain ⟨k, rfl⟩ : ∃ m, k = m + 1 := ⟨k - 1, by omega⟩
    have hw : wrap64 ((i : Int) + 1) = ((i + 1 : Nat) : Int) := by unfold wrap64; omega
    obtain ⟨b, hb, hi2⟩ := ih (i + 1) k (by omega) (by omega)
    rw [lodestoneref17_May.l2, if_pos (by omega), if_pos (by omega)]
    obtain ⟨x, hx⟩ : ∃ x, rd_T41 ks (i : Int) = x := ⟨_, rfl⟩
    rw [hx]
    by_cases c : kdOk x
    · rw [if_neg (by have := c.1; omega), if_neg (by have := c.2.1; omega), if_pos (by rw [c.2.2]; rfl), hw]
      refine ⟨b, hb, hi2.trans ⟨fun h => ⟨fun j a e => ?_, h.2⟩, fun h => ⟨fun j a e => h.1 j (by omega) e, h.2⟩⟩⟩
      rcases Nat.eq_or_lt_of_le a with f | f
      · subst f; rw [hx]; exact c
      · exact h.1 j f e
    · refine ⟨false, ?_, ⟨fun h => absurd h (by decide), fun h => absurd (hx ▸ h.1 i (Nat.le_refl _) (by omega)) c⟩⟩
      by_cases c1 : x.f1.f0 < 0
      · rw [if_pos c1]
      · rw [if_neg c1]
        by_cases c2 : x.f1.f0 ≥ 4096
        · rw [if_pos c2]
        · rw [if_neg c2, if_neg (fun c3 => c ⟨by omega, by omega, by omega⟩)]
theorem rmay_l1 (es : List S43) (ks : List S41) (h0 : es.length ≤ 100) (h1 : ks.length ≤ 100) : ∀ (d i k : Nat), i + d = es.length → d + 110 ≤ k →
    ∃ b, lodestoneref17_May.l1 k (i : Int) es ks = some b ∧ (b = true ↔ ((∀ j, i ≤ j → j < es.length → enOk (rd_T43 es (j : Int))) ∧ (∀ j, j < ks.length → kdOk (rd_T41 ks (j : Int))) ∧ (es.length = 0 ↔ ks.length ≠ 0))) := by
  intro d
  induction d with
  | zero =>
    intro i k hi hk
    obtain ⟨k, rfl⟩ : ∃ m, k = m + 1 := ⟨k - 1, by omega⟩
    obtain ⟨b, hb, hi2⟩ := rmay_l2 es ks h0 h1 ks.length 0 k (by omega) (by omega)
    refine ⟨b, by rw [lodestoneref17_May.l1, if_neg (by omega)]; exact hb, hi2.trans ⟨fun h => ⟨fun j a b => absurd b (by omega), fun j e => h.1 j (Nat.zero_le _) e, h.2⟩, fun h => ⟨fun j _ e => h.2.1 j e, h.2.2⟩⟩⟩
  | succ d ih =>
    intro i k hi hk
    obtain ⟨k, rfl⟩ : ∃ m, k = m + 1 := ⟨k - 1, by omega⟩
    have hw : wrap64 ((i : Int) + 1) = ((i + 1 : Nat) : Int) := by unfold wrap64; omega
    obtain ⟨b, hb, hi2⟩ := ih (i + 1) k (by omega) (by omega)
    rw [lodestoneref17_May.l1, if_pos (by omega), if_pos (by omega)]
    obtain ⟨x, hx⟩ : ∃ x, rd_T43 es (i : Int) = x := ⟨_, rfl⟩
    rw [hx]
    by_cases c : enOk x
    · rw [if_neg c.1, if_neg (by have := c.2; omega), hw]
      refine ⟨b, hb, hi2.trans ⟨fun h => ⟨fun j a e => ?_, h.2⟩, fun h => ⟨fun j a e => h.1 j (by omega) e, h.2⟩⟩⟩
      rcases Nat.eq_or_lt_of_le a with f | f
      · subst f; rw [hx]; exact c
      · exact h.1 j f e
    · refine ⟨false, ?_, ⟨fun h => absurd h (by decide), fun h => absurd (hx ▸ h.1 i (Nat.le_refl _) (by omega)) c⟩⟩
      by_cases c1 : x.f0.toList = ([] : List UInt8)
      · rw [if_pos c1]
      · rw [if_neg c1, if_pos (Decidable.byContradiction fun c2 => c ⟨c1, by omega⟩)]
theorem rmay_l0 (es : List S43) (ks : List S41) (h0 : es.length ≤ 100) (h1 : ks.length ≤ 100) (xs : List ByteArray) (hx0 : xs.length ≤ 200) : ∀ (d i k : Nat), i + d = xs.length → d + 230 ≤ k →
    ∃ b, lodestoneref17_May.l0 k xs (i : Int) es ks = some b ∧ (b = true ↔ ((∀ j, i ≤ j → j < xs.length → kyOk xs j) ∧ (∀ j, j < es.length → enOk (rd_T43 es (j : Int))) ∧ (∀ j, j < ks.length → kdOk (rd_T41 ks (j : Int))) ∧ (es.length = 0 ↔ ks.length ≠ 0))) := by
  intro d
  induction d with
  | zero =>
    intro i k hi hk
    obtain ⟨k, rfl⟩ : ∃ m, k = m + 1 := ⟨k - 1, by omega⟩
    obtain ⟨b, hb, hi2⟩ := rmay_l1 es ks h0 h1 es.length 0 k (by omega) (by omega)
    refine ⟨b, by rw [lodestoneref17_May.l0, if_neg (by omega)]; exact hb, hi2.trans ⟨fun h => ⟨fun j a b => absurd b (by omega), fun j e => h.1 j (Nat.zero_le _) e, h.2⟩, fun h => ⟨fun j _ e => h.2.1 j e, h.2.2⟩⟩⟩
  | succ d ih =>
    intro i k hi hk
    obtain ⟨k, rfl⟩ : ∃ m, k = m + 1 := ⟨k - 1, by omega⟩
    have hw : wrap64 ((i : Int) + 1) = ((i + 1 : Nat) : Int) := by unfold wrap64; omega
    obtain ⟨b, hb, hi2⟩ := ih (i + 1) k (by omega) (by omega)
    have hr : rdOf ByteArray.empty xs (i : Int) = ky xs i := by rw [rdOf, Int.toNat_natCast]; rfl
    rw [lodestoneref17_May.l0, if_pos (by omega), if_pos (by omega), hr]
    have stepT : kyOk xs i → (b = true ↔ ((∀ j, i ≤ j → j < xs.length → kyOk xs j) ∧ (∀ j, j < es.length → enOk (rd_T43 es (j : Int))) ∧ (∀ j, j < ks.length → kdOk (rd_T41 ks (j : Int))) ∧ (es.length = 0 ↔ ks.length ≠ 0))) := fun c =>
      hi2.trans ⟨fun h => ⟨fun j a e => (Nat.eq_or_lt_of_le a).elim (fun f => f ▸ c) (fun f => h.1 j f e), h.2⟩, fun h => ⟨fun j a e => h.1 j (by omega) e, h.2⟩⟩
    have stepF : ¬ kyOk xs i → (false = true ↔ ((∀ j, i ≤ j → j < xs.length → kyOk xs j) ∧ (∀ j, j < es.length → enOk (rd_T43 es (j : Int))) ∧ (∀ j, j < ks.length → kdOk (rd_T41 ks (j : Int))) ∧ (es.length = 0 ↔ ks.length ≠ 0))) := fun c =>
      ⟨fun h => absurd h (by decide), fun h => absurd (h.1 i (Nat.le_refl _) (by omega)) c⟩
    by_cases c1 : ((ky xs i).size : Int) > 96
    · rw [if_pos c1]
      exact ⟨false, rfl, stepF (fun c => by have := c.1; omega)⟩
    · rw [if_neg c1]
      by_cases c2 : (i : Int) > 0
      · have hw2 : wrap64 ((i : Int) - 1) = ((i - 1 : Nat) : Int) := by unfold wrap64; omega
        have hr2 : rdOf ByteArray.empty xs ((i - 1 : Nat) : Int) = ky xs (i - 1) := by rw [rdOf, Int.toNat_natCast]; rfl
        rw [if_pos c2, hw2, if_pos (by omega), if_pos (by omega), hr2]
        by_cases c3 : Op.bytesLess (ky xs (i - 1)).toList (ky xs i).toList = true
        · rw [if_pos c3, hw]
          exact ⟨b, hb, stepT ⟨by omega, fun _ => c3⟩⟩
        · rw [if_neg c3]
          exact ⟨false, rfl, stepF (fun c => c3 (c.2 (by omega)))⟩
      · rw [if_neg c2, hw]
        exact ⟨b, hb, stepT ⟨by omega, fun h => absurd h (by omega)⟩⟩
theorem rmay_k (es : List S43) (ks : List S41) (h0 : es.length ≤ 100) (h1 : ks.length ≤ 100) (k : Nat) (hk : 500 ≤ k) : lodestoneref17_May.f k es ks = some (mayB es ks) := by
  have hl : (keysL es ks).length = es.length + ks.length := keysL_length es ks
  obtain ⟨b, hb, hi⟩ := rmay_l0 es ks h0 h1 (keysL es ks) (by omega) (keysL es ks).length 0 k (by omega) (by omega)
  have he : b = mayB es ks := Bool.eq_iff_iff.mpr (hi.trans (Iff.trans ⟨fun h => ⟨fun i hi => h.1 i (Nat.zero_le _) hi, h.2.1, h.2.2.1, h.2.2.2⟩, fun h => ⟨fun i _ hi => h.1 i hi, h.2.1, h.2.2.1, h.2.2.2⟩⟩ (may_iff es ks).symm))
  unfold lodestoneref17_May.f
  rw [rkeys_k es ks h0 h1 k (by omega), Option.bind_some, ← he]
  exact hb
end Go.Proofs.Ytcdnmpajobhdcaa.Pure
