/- Entries behind changes, plainly: rising lists, what lies over what. -/
import Derived.Test.YtdkepbmpcbnkpaaDlL
import Derived.Test.YtdkepbmpcbnkpaaPDeltaOverx0
namespace Go.Proofs.Ytdkepbmpcbnkpaa.Dl
open Go.RowKit Go.Proofs.YtdkepbmpcbnkpaaW.PrintWords Go.Proofs.YtdkepbmpcbnkpaaW.PrintLast Go.Proofs.YtdkepbmpcbnkpaaW.PrintMore Go.Proofs.Ytdkepbmpcbnkpaa.XB Go.Proofs.Ytdkepbmpcbnkpaa.PDeltaPlays
set_option linter.unusedVariables false
set_option linter.unusedSimpArgs false
variable {l : List S26} {E : List S47} {D : List S26}
def RisesE (l : List S47) : Prop := l.Pairwise (fun a b => a.f0.toList < b.f0.toList)
/-- a change as an entry -/
def ent (c : S26) : S47 := ⟨c.f0, c.f1⟩
def put1 (c : S26) (l : List S47) : List S47 := if c.f2 = true then l else ent c :: l
/-- entries behind changes -/
def overL : List S47 → List S26 → List S47
  | E, [] => E
  | [], c :: D => put1 c (overL [] D)
  | e :: E, c :: D => if e.f0.toList < c.f0.toList then e :: overL E (c :: D) else if e.f0.toList = c.f0.toList then put1 c (overL E D) else put1 c (overL (e :: E) D)
termination_by E D => E.length + D.length
theorem put1_mem (c : S26) (l : List S47) (x : S47) : x ∈ put1 c l ↔ (c.f2 = false ∧ x = ent c) ∨ x ∈ l := by
  unfold put1
  split
  · rename_i h
    simp [h]
  · rename_i h
    simp [h]
theorem lt_tri' {a b : List UInt8} (h1 : ¬ a < b) (h2 : a ≠ b) : b < a := by
  rcases List.le_iff_lt_or_eq.mp (List.not_lt.mp h1) with h | h
  · exact h
  · exact absurd h.symm h2
theorem lt_ne {a b : List UInt8} (h : a < b) : a ≠ b := fun e => List.lt_irrefl _ (e ▸ h)
theorem lt_ne' {a b : List UInt8} (h : a < b) : b ≠ a := fun e => List.lt_irrefl _ (e ▸ h)
theorem over_mem (E : List S47) (D : List S26) (hE : RisesE E) (hD : Rises D) (x : S47) : x ∈ overL E D ↔ (x ∈ E ∧ ∀ c ∈ D, c.f0.toList ≠ x.f0.toList) ∨ (∃ c ∈ D, c.f2 = false ∧ x = ent c) := by
  induction E, D using overL.induct with
  | case1 E =>
    rw [overL]
    exact ⟨fun h => Or.inl ⟨h, fun c hc => by cases hc⟩, fun h => by rcases h with h | ⟨c, hc, _⟩; exact h.1; cases hc⟩
  | case2 c D ih =>
    rw [overL, put1_mem, ih hE (List.pairwise_cons.mp hD).2]
    constructor
    · rintro (h | ⟨h, _⟩ | ⟨y, hy, h⟩)
      · exact Or.inr ⟨c, List.mem_cons_self, h⟩
      · cases h
      · exact Or.inr ⟨y, List.mem_cons_of_mem _ hy, h⟩
    · rintro (⟨h, _⟩ | ⟨y, hy, h⟩)
      · cases h
      · rcases List.mem_cons.mp hy with rfl | hy
        · exact Or.inl h
        · exact Or.inr (Or.inr ⟨y, hy, h⟩)
  | case3 e E c D hlt ih =>
    rw [overL, if_pos hlt, List.mem_cons, ih (List.pairwise_cons.mp hE).2 hD]
    have hc : ∀ y ∈ c :: D, e.f0.toList < y.f0.toList := by
      intro y hy
      rcases List.mem_cons.mp hy with rfl | hy
      · exact hlt
      · exact List.lt_trans hlt ((List.pairwise_cons.mp hD).1 y hy)
    constructor
    · rintro (rfl | ⟨h1, h2⟩ | h)
      · exact Or.inl ⟨List.mem_cons_self, fun y hy => lt_ne' (hc y hy)⟩
      · exact Or.inl ⟨List.mem_cons_of_mem _ h1, h2⟩
      · exact Or.inr h
    · rintro (⟨h1, h2⟩ | h)
      · rcases List.mem_cons.mp h1 with rfl | h1
        · exact Or.inl rfl
        · exact Or.inr (Or.inl ⟨h1, h2⟩)
      · exact Or.inr (Or.inr h)
  | case4 e E c D hlt heq ih =>
    rw [overL, if_neg hlt, if_pos heq, put1_mem, ih (List.pairwise_cons.mp hE).2 (List.pairwise_cons.mp hD).2]
    constructor
    · rintro (h | ⟨h1, h2⟩ | ⟨y, hy, h⟩)
      · exact Or.inr ⟨c, List.mem_cons_self, h⟩
      · refine Or.inl ⟨List.mem_cons_of_mem _ h1, fun y hy => ?_⟩
        rcases List.mem_cons.mp hy with rfl | hy
        · rw [← heq]
          exact lt_ne ((List.pairwise_cons.mp hE).1 x h1)
        · exact h2 y hy
      · exact Or.inr ⟨y, List.mem_cons_of_mem _ hy, h⟩
    · rintro (⟨h1, h2⟩ | ⟨y, hy, h⟩)
      · rcases List.mem_cons.mp h1 with rfl | h1
        · exact absurd heq.symm (h2 c List.mem_cons_self)
        · exact Or.inr (Or.inl ⟨h1, fun y hy => h2 y (List.mem_cons_of_mem _ hy)⟩)
      · rcases List.mem_cons.mp hy with rfl | hy
        · exact Or.inl h
        · exact Or.inr (Or.inr ⟨y, hy, h⟩)
  | case5 e E c D hlt heq ih =>
    have hgt := lt_tri' hlt heq
    rw [overL, if_neg hlt, if_neg heq, put1_mem, ih hE (List.pairwise_cons.mp hD).2]
    constructor
    · rintro (h | ⟨h1, h2⟩ | ⟨y, hy, h⟩)
      · exact Or.inr ⟨c, List.mem_cons_self, h⟩
      · refine Or.inl ⟨h1, fun y hy => ?_⟩
        rcases List.mem_cons.mp hy with rfl | hy
        · rcases List.mem_cons.mp h1 with rfl | h1
          · exact lt_ne hgt
          · exact lt_ne (List.lt_trans hgt ((List.pairwise_cons.mp hE).1 x h1))
        · exact h2 y hy
      · exact Or.inr ⟨y, List.mem_cons_of_mem _ hy, h⟩
    · rintro (⟨h1, h2⟩ | ⟨y, hy, h⟩)
      · exact Or.inr (Or.inl ⟨h1, fun y hy => h2 y (List.mem_cons_of_mem _ hy)⟩)
      · rcases List.mem_cons.mp hy with rfl | hy
        · exact Or.inl h
        · exact Or.inr (Or.inr ⟨y, hy, h⟩)
theorem put1_rises {c : S26} {L : List S47} (hL : RisesE L) (h : ∀ x ∈ L, c.f0.toList < x.f0.toList) : RisesE (put1 c L) := by
  unfold put1
  split
  · exact hL
  · exact List.pairwise_cons.mpr ⟨h, hL⟩
theorem over_rises (E : List S47) (D : List S26) (hE : RisesE E) (hD : Rises D) : RisesE (overL E D) := by
  induction E, D using overL.induct with
  | case1 E => rw [overL]; exact hE
  | case2 c D ih =>
    rw [overL]
    have hd := List.pairwise_cons.mp hD
    refine put1_rises (ih hE hd.2) fun x hx => ?_
    rcases (over_mem [] D hE hd.2 x).mp hx with h | ⟨y, hy, _, rfl⟩
    · cases h.1
    · exact hd.1 y hy
  | case3 e E c D hlt ih =>
    rw [overL, if_pos hlt]
    have he := List.pairwise_cons.mp hE
    have hd := List.pairwise_cons.mp hD
    refine List.pairwise_cons.mpr ⟨fun x hx => ?_, ih he.2 hD⟩
    rcases (over_mem E (c :: D) he.2 hD x).mp hx with h | ⟨y, hy, _, rfl⟩
    · exact he.1 x h.1
    · rcases List.mem_cons.mp hy with rfl | hy
      · exact hlt
      · exact List.lt_trans hlt (hd.1 y hy)
  | case4 e E c D hlt heq ih =>
    rw [overL, if_neg hlt, if_pos heq]
    have he := List.pairwise_cons.mp hE
    have hd := List.pairwise_cons.mp hD
    refine put1_rises (ih he.2 hd.2) fun x hx => ?_
    rcases (over_mem E D he.2 hd.2 x).mp hx with h | ⟨y, hy, _, rfl⟩
    · rw [← heq]
      exact he.1 x h.1
    · exact hd.1 y hy
  | case5 e E c D hlt heq ih =>
    have hgt := lt_tri' hlt heq
    rw [overL, if_neg hlt, if_neg heq]
    have he := List.pairwise_cons.mp hE
    have hd := List.pairwise_cons.mp hD
    refine put1_rises (ih hE hd.2) fun x hx => ?_
    rcases (over_mem (e :: E) D hE hd.2 x).mp hx with h | ⟨y, hy, _, rfl⟩
    · rcases List.mem_cons.mp h.1 with rfl | h1
      · exact hgt
      · exact List.lt_trans hgt (he.1 x h1)
    · exact hd.1 y hy
theorem rises_eq : ∀ {L1 L2 : List S47}, RisesE L1 → RisesE L2 → (∀ x, x ∈ L1 ↔ x ∈ L2) → L1 = L2
  | [], [], _, _, _ => rfl
  | [], b :: L2, _, _, h => by cases (h b).mpr List.mem_cons_self
  | a :: L1, [], _, _, h => by cases (h a).mp List.mem_cons_self
  | a :: L1, b :: L2, h1, h2, h => by
    have p1 := List.pairwise_cons.mp h1
    have p2 := List.pairwise_cons.mp h2
    have hab : a = b := by
      rcases List.mem_cons.mp ((h a).mp List.mem_cons_self) with e | ha
      · exact e
      · rcases List.mem_cons.mp ((h b).mpr List.mem_cons_self) with e | hb
        · exact e.symm
        · exact absurd (List.lt_trans (p2.1 a ha) (p1.1 b hb)) (List.lt_irrefl _)
    subst hab
    rw [rises_eq p1.2 p2.2 fun x => ?_]
    constructor
    · intro hx
      rcases List.mem_cons.mp ((h x).mp (List.mem_cons_of_mem _ hx)) with rfl | h3
      · exact absurd (p1.1 x hx) (List.lt_irrefl _)
      · exact h3
    · intro hx
      rcases List.mem_cons.mp ((h x).mpr (List.mem_cons_of_mem _ hx)) with rfl | h3
      · exact absurd (p2.1 x hx) (List.lt_irrefl _)
      · exact h3
theorem drop_over (h : Rises l) (key : ByteArray) {k : Nat} (hk : atN l key < k) : ∀ y ∈ l.drop k, y.f0.toList ≠ key.toList := by
  intro y hy
  obtain ⟨i, hi, rfl⟩ := List.getElem_of_mem hy
  rw [List.length_drop] at hi
  have := at_over h key (by omega : atN l key < k + i) (by omega)
  rw [rd_get (by omega)] at this
  rw [List.getElem_drop]
  exact this
theorem put_mem (h : Rises l) (c : S26) (hc : c.f0.toList ≠ []) (y : S26) : y ∈ putL l c ↔ (y ∈ l ∧ y.f0.toList ≠ c.f0.toList) ∨ y = c := by
  have hb : ∀ y ∈ l.take (atN l c.f0), y.f0.toList ≠ c.f0.toList := fun y hy => lt_ne ((lt_iff _ _).mp ((cut c.f0 h).1 y hy))
  unfold putL
  rw [if_neg hc]
  split
  · rename_i hh
    obtain ⟨hn, hk⟩ := hh
    have ho := drop_over h c.f0 (Nat.lt_succ_self (atN l c.f0))
    rw [List.set_eq_take_append_cons_drop, if_pos hn]
    have el : l = l.take (atN l c.f0) ++ rd_T26 l (atN l c.f0 : Nat) :: l.drop (atN l c.f0 + 1) := by rw [← rd_drop hn, List.take_append_drop]
    constructor
    · intro hy
      rcases List.mem_append.mp hy with h1 | h1
      · exact Or.inl ⟨List.mem_of_mem_take h1, hb y h1⟩
      · rcases List.mem_cons.mp h1 with h1 | h1
        · exact Or.inr h1
        · exact Or.inl ⟨List.mem_of_mem_drop h1, ho y h1⟩
    · rintro (⟨h1, h2⟩ | rfl)
      · rw [el] at h1
        rcases List.mem_append.mp h1 with h1 | h1
        · exact List.mem_append_left _ h1
        · rcases List.mem_cons.mp h1 with rfl | h1
          · exact absurd hk h2
          · exact List.mem_append_right _ (List.mem_cons_of_mem _ h1)
      · exact List.mem_append_right _ List.mem_cons_self
  · rename_i hh
    have ho : ∀ y ∈ l.drop (atN l c.f0), y.f0.toList ≠ c.f0.toList := by
      intro y hy
      by_cases hn : atN l c.f0 < l.length
      · rw [rd_drop hn] at hy
        rcases List.mem_cons.mp hy with rfl | hy
        · exact fun e => hh ⟨hn, e⟩
        · exact drop_over h c.f0 (Nat.lt_succ_self _) y hy
      · rw [List.drop_of_length_le (by omega)] at hy
        cases hy
    unfold insC
    constructor
    · intro hy
      rcases List.mem_append.mp hy with h1 | h1
      · rcases List.mem_append.mp h1 with h1 | h1
        · exact Or.inl ⟨List.mem_of_mem_take h1, hb y h1⟩
        · exact Or.inr (List.mem_singleton.mp h1)
      · exact Or.inl ⟨List.mem_of_mem_drop h1, ho y h1⟩
    · rintro (⟨h1, h2⟩ | rfl)
      · rw [← List.take_append_drop (atN l c.f0) l] at h1
        rcases List.mem_append.mp h1 with h1 | h1
        · exact List.mem_append_left _ (List.mem_append_left _ h1)
        · exact List.mem_append_right _ h1
      · exact List.mem_append_left _ (List.mem_append_right _ (List.mem_singleton.mpr rfl))
theorem rises_one (c : S26) : Rises [c] := List.pairwise_cons.mpr ⟨fun _ h => (by cases h), List.Pairwise.nil⟩
/-- one change more -/
theorem over_put (hE : RisesE E) (hD : Rises D) (c : S26) (hc : c.f0.toList ≠ []) : overL (overL E D) [c] = overL E (putL D c) := by
  have hO := over_rises E D hE hD
  have hP := putL_rises hD c
  refine rises_eq (over_rises _ _ hO (rises_one c)) (over_rises E _ hE hP) fun x => ?_
  rw [over_mem _ _ hO (rises_one c), over_mem _ _ hE hP, over_mem _ _ hE hD]
  constructor
  · rintro (⟨⟨h1, h2⟩ | ⟨y, hy, h1, rfl⟩, h3⟩ | ⟨y, hy, h1, rfl⟩)
    · refine Or.inl ⟨h1, fun y hy => ?_⟩
      rcases (put_mem hD c hc y).mp hy with h | rfl
      · exact h2 y h.1
      · exact h3 y (List.mem_singleton.mpr rfl)
    · exact Or.inr ⟨y, (put_mem hD c hc y).mpr (Or.inl ⟨hy, fun e => h3 c (List.mem_singleton.mpr rfl) e.symm⟩), h1, rfl⟩
    · obtain rfl := List.mem_singleton.mp hy
      exact Or.inr ⟨y, (put_mem hD y hc y).mpr (Or.inr rfl), h1, rfl⟩
  · rintro (⟨h1, h2⟩ | ⟨y, hy, h1, rfl⟩)
    · refine Or.inl ⟨Or.inl ⟨h1, fun y hy e => ?_⟩, fun y hy => ?_⟩
      · by_cases hk : y.f0.toList = c.f0.toList
        · exact h2 c ((put_mem hD c hc c).mpr (Or.inr rfl)) (hk.symm.trans e)
        · exact h2 y ((put_mem hD c hc y).mpr (Or.inl ⟨hy, hk⟩)) e
      · obtain rfl := List.mem_singleton.mp hy
        exact h2 y ((put_mem hD y hc y).mpr (Or.inr rfl))
    · rcases (put_mem hD c hc y).mp hy with h | rfl
      · refine Or.inl ⟨Or.inr ⟨y, h.1, h1, rfl⟩, fun z hz e => ?_⟩
        obtain rfl := List.mem_singleton.mp hz
        exact h.2 e.symm
      · exact Or.inr ⟨y, List.mem_singleton.mpr rfl, h1, rfl⟩
theorem over_length (E : List S47) (D : List S26) : (overL E D).length ≤ E.length + D.length := by
  induction E, D using overL.induct with
  | case1 E => rw [overL]; exact Nat.le_refl _
  | case2 c D ih => rw [overL]; unfold put1; split <;> simp at ih ⊢ <;> omega
  | case3 e E c D hlt ih => rw [overL, if_pos hlt]; simp at ih ⊢; omega
  | case4 e E c D hlt heq ih => rw [overL, if_neg hlt, if_pos heq]; unfold put1; split <;> simp at ih ⊢ <;> omega
  | case5 e E c D hlt heq ih => rw [overL, if_neg hlt, if_neg heq]; unfold put1; split <;> simp at ih ⊢ <;> omega
end Go.Proofs.Ytdkepbmpcbnkpaa.Dl
