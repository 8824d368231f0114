/- With and Over are what they should be; a key of a number. -/
import Derived.Test.YtdkepbmpcbnkpaaDlN
import Derived.Test.YtdkepbmpcbnkpaaPDeltaOverx2
import Derived.Test.YtdkepbmpcbnkpaaPDeltaOverx3
namespace Go.Proofs.Ytdkepbmpcbnkpaa.Dl
open Go.RowKit Go.Proofs.YtdkepbmpcbnkpaaW.PrintWords Go.Proofs.YtdkepbmpcbnkpaaW.PrintLast Go.Proofs.YtdkepbmpcbnkpaaW.PrintMore Go.Proofs.Ytdkepbmpcbnkpaa.XB Go.Proofs.Ytdkepbmpcbnkpaa.PDeltaPlays
set_option linter.unusedVariables false
set_option linter.unusedSimpArgs false
variable {l : List S26} {E : List S47} {D : List S26}
theorem rd_get47 {E : List S47} {j : Nat} (hj : j < E.length) : rd_T47 E (j : Int) = E[j] := by simp [rd_T47, List.getD_eq_getElem?_getD, List.getElem?_eq_getElem hj]
theorem rd_drop47 {i : Nat} (h : i < E.length) : E.drop i = rd_T47 E (i : Int) :: E.drop (i + 1) := by rw [rd_get47 h]; exact List.drop_eq_getElem_cons h
/-- those of other keys -/
def others (key : ByteArray) (l : List S47) : List S47 := l.filter (fun e => decide (e.f0.toList ≠ key.toList))
theorem others_pos {key : ByteArray} {e : S47} {l : List S47} (h : e.f0.toList ≠ key.toList) : others key (e :: l) = e :: others key l := List.filter_cons_of_pos (by simpa using h)
theorem others_neg {key : ByteArray} {e : S47} {l : List S47} (h : e.f0.toList = key.toList) : others key (e :: l) = others key l := List.filter_cons_of_neg (by simpa using h)
theorem others_all {key : ByteArray} {l : List S47} (h : ∀ e ∈ l, e.f0.toList ≠ key.toList) : others key l = l := List.filter_eq_self.mpr fun e he => by simpa using h e he
theorem With_in (key val : ByteArray) (hl : E.length < 1000) : ∀ m i : Nat, i + m = E.length → ∀ x8 : List S47, x8.length + m < 100000 →
    lodestonelaw18_With.l0 (2 * m + 1) E key val x8 true (i : Int) = some (x8 ++ others key (E.drop i))
  | 0, i, h, x8, _ => by
    rw [lodestonelaw18_With.l0, if_neg (by omega), if_pos rfl, List.drop_of_length_le (by omega)]
    show some x8 = some (x8 ++ [])
    rw [List.append_nil]
  | m + 1, i, h, x8, h5 => by
    rw [show 2 * (m + 1) + 1 = (2 * m + 1) + 1 + 1 by omega, lodestonelaw18_With.l0, if_pos (by omega), if_pos rfl, lodestonelaw18_With.j1, if_neg (by decide), if_pos (by omega), if_pos (by omega), w64 (by omega) (by omega), rd_drop47 (by omega : i < E.length)]
    by_cases hk : (rd_T47 E (i : Int)).f0.toList = key.toList
    · rw [if_pos hk, others_neg hk]
      exact With_in key val hl m (i + 1) (by omega) x8 (by omega)
    · rw [if_neg hk, if_pos (by omega), others_pos hk]
      have := With_in key val hl m (i + 1) (by omega) (x8 ++ [rd_T47 E (i : Int)]) (by rw [List.length_append]; simp; omega)
      rw [List.append_assoc] at this
      exact this
theorem over_gone (key val : ByteArray) : ∀ {E : List S47}, RisesE E → overL E [⟨key, val, true⟩] = others key E
  | [], _ => by rw [overL, overL]; rfl
  | e :: E, h => by
    have he := List.pairwise_cons.mp h
    rw [overL]
    by_cases h1 : e.f0.toList < key.toList
    · rw [if_pos h1, over_gone key val he.2, others_pos (lt_ne h1)]
    · rw [if_neg h1]
      by_cases h2 : e.f0.toList = key.toList
      · rw [if_pos h2, others_neg h2, overL, others_all fun x hx => by rw [← h2]; exact lt_ne' (he.1 x hx)]
        rfl
      · rw [if_neg h2, overL, others_all fun x hx => ?_]
        · rfl
        · have h3 := lt_tri' h1 h2
          rcases List.mem_cons.mp hx with rfl | hx
          · exact h2
          · exact lt_ne' (List.lt_trans h3 (he.1 x hx))
theorem With_out (key val : ByteArray) (hE : RisesE E) (hl : E.length < 1000) : ∀ m i : Nat, i + m = E.length → ∀ x8 : List S47, x8.length + m < 10000 →
    lodestonelaw18_With.l0 (2 * m + 1) E key val x8 false (i : Int) = some (x8 ++ overL (E.drop i) [⟨key, val, false⟩])
  | 0, i, h, x8, h5 => by
    rw [lodestonelaw18_With.l0, if_neg (by omega), if_neg (by decide), if_pos (by omega), List.drop_of_length_le (by omega), overL, overL]
    rfl
  | m + 1, i, h, x8, h5 => by
    have hi : i < E.length := by omega
    rw [show 2 * (m + 1) + 1 = (2 * m + 1) + 1 + 1 by omega, lodestonelaw18_With.l0, if_pos (by omega), if_neg (by decide), if_pos (by omega), lodestonelaw18_With.j1, rd_drop47 hi, overL]
    have hrest : ∀ x ∈ E.drop (i + 1), (rd_T47 E (i : Int)).f0.toList < x.f0.toList := by
      intro x hx
      have hd : RisesE (E.drop i) := List.Pairwise.sublist (List.drop_sublist i E) hE
      rw [rd_drop47 hi] at hd
      exact (List.pairwise_cons.mp hd).1 x hx
    by_cases h1 : (rd_T47 E (i : Int)).f0.toList < key.toList
    · have hb : Op.bytesLess (rd_T47 E (i : Int)).f0.toList key.toList = true := by rw [bytesLess_eq, decide_eq_true_eq]; exact h1
      rw [hb, if_neg (by decide), if_pos (by omega), if_pos (by omega), if_neg (lt_ne h1), if_pos (by omega), w64 (by omega) (by omega), if_pos h1]
      have := With_out key val hE hl m (i + 1) (by omega) (x8 ++ [rd_T47 E (i : Int)]) (by rw [List.length_append]; simp; omega)
      rw [List.append_assoc] at this
      exact this
    · have hb : Op.bytesLess (rd_T47 E (i : Int)).f0.toList key.toList = false := by rw [bytesLess_eq, decide_eq_false_iff_not]; exact h1
      rw [hb, if_pos (by decide), if_pos (by omega), obs, if_pos (by omega), if_pos (by omega), w64 (by omega) (by omega), if_neg h1]
      by_cases h2 : (rd_T47 E (i : Int)).f0.toList = key.toList
      · rw [if_pos h2, if_pos h2, overL]
        refine (With_in key val hl m (i + 1) (by omega) _ (by rw [List.length_append]; simp; omega)).trans ?_
        rw [others_all fun x hx => by rw [← h2]; exact lt_ne' (hrest x hx), List.append_assoc]
        rfl
      · rw [if_neg h2, if_neg h2, if_pos (by rw [List.length_append]; simp; omega), overL]
        refine (With_in key val hl m (i + 1) (by omega) _ (by rw [List.length_append, List.length_append]; simp; omega)).trans ?_
        rw [others_all fun x hx => lt_ne' (List.lt_trans (lt_tri' h1 h2) (hrest x hx)), List.append_assoc, List.append_assoc]
        rfl
theorem With_calls (A : Option Addr) (c : Nat) (hE : RisesE E) (x : S26) (w : World) (hC : Kd.C k47 w A E.length E) (hc : E.length ≤ c) (hl : E.length < 1000) :
    Calls Try.prog 18 #[.slice A E.length c, .string x.f0, .string x.f1, .bool x.f2] w fun e w' => ∃ v0_ : Value, e = .returned (v0_) ∧ Kd.R k47 47 w' w.heap.size (fun _ => True) v0_ (overL E [x]) ∧ Below w.heap.size w w' := by
  refine lodestonelaw18_With.calls (2 * E.length + 1) A c E x.f0 x.f1 x.f2 (overL E [x]) w hC hc ?_
  unfold lodestonelaw18_With.f
  obtain ⟨key, val, gone⟩ := x
  cases gone with
  | true =>
    rw [over_gone key val hE]
    exact With_in key val hl E.length 0 (by omega) [] (by simp; omega)
  | false => exact With_out key val hE hl E.length 0 (by omega) [] (by simp; omega)
theorem take_push {x7 L : List S47} {e : S47} {n : Nat} (h : x7.length < n) : x7 ++ (e :: L).take (n - x7.length) = (x7 ++ [e]) ++ L.take (n - (x7 ++ [e]).length) := by
  rw [List.length_append, show n - x7.length = (n - (x7.length + 1)) + 1 by omega, List.take_succ_cons, List.append_assoc]
  rfl
theorem cons_pos {α : Type} (e : α) (E : List α) : 0 < ((e :: E).length : Int) := by simp [List.length_cons]
theorem cons_one {α : Type} (e : α) (E : List α) : 1 ≤ ((e :: E).length : Int) := cons_pos e E
theorem cons_ne0 {α : Type} (e : α) (E : List α) : ¬ ((e :: E).length : Int) = 0 := fun h => by have := cons_pos e E; omega
theorem nil_pos {α : Type} : ¬ (([] : List α).length : Int) > 0 := by simp
theorem wrap0 {α β : Type} : ¬ wrap64 ((([] : List α).length : Int) + (([] : List β).length : Int)) > 0 := by
  show ¬ wrap64 0 > 0
  rw [w64 (by omega) (by omega)]
  omega
theorem Over_l0 (n : Nat) (hn : n < 100000) : ∀ (m : Nat) (E : List S47) (D : List S26), E.length + D.length ≤ m → m < 100000 → ∀ k, 4 * m + 2 ≤ k → ∀ x7 : List S47, x7.length ≤ n →
    delta_Over.l0 k E D (n : Int) x7 = some (x7 ++ (overL E D).take (n - x7.length)) := by
  intro m
  induction m with
  | zero =>
    intro E D hm _ k hk x7 h7
    have e0 : E = [] := List.eq_nil_of_length_eq_zero (by omega)
    have d0 : D = [] := List.eq_nil_of_length_eq_zero (by omega)
    subst e0 d0
    obtain ⟨k', rfl⟩ : ∃ k', k = k' + 1 + 1 := ⟨k - 2, by omega⟩
    rw [delta_Over.l0, if_neg wrap0, delta_Over.j1, if_neg (by decide), overL, List.take_nil, List.append_nil]
  | succ m ih =>
    intro E D hm hm2 k hk x7 h7
    by_cases h0 : E.length + D.length = 0
    · exact ih E D (by omega) (by omega) k (by omega) x7 h7
    obtain ⟨k', rfl⟩ : ∃ k', k = k' + 1 + 1 + 1 + 1 := ⟨k - 4, by omega⟩
    rw [delta_Over.l0, if_pos (by rw [w64 (by omega) (by omega)]; omega), delta_Over.j1]
    by_cases hlt : x7.length < n
    · rw [if_pos (decide_eq_true (by omega))]
      -- an entry as it is
      have EARM : ∀ (e : S47) (E' : List S47), E = e :: E' → (overL E D = e :: overL E' D) → delta_Over.j2 (k' + 1 + 1) E D (n : Int) x7 true = some (x7 ++ (overL E D).take (n - x7.length)) := by
        intro e E' hE ho
        subst hE
        rw [List.length_cons] at hm
        rw [delta_Over.j2, if_pos rfl, if_pos (cons_pos e E'), if_pos (by omega), if_pos (cons_one e E'), ho, take_push hlt]
        exact ih E' D (by omega) (by omega) (k' + 1) (by omega) (x7 ++ [e]) (by rw [List.length_append]; simp; omega)
      -- a change, behind it E'
      have CARM : ∀ (c : S26) (D' : List S26) (E' : List S47), E'.length + D'.length ≤ m → (overL E D = put1 c (overL E' D')) → (if c.f2 = true then delta_Over.l0 k' E' D' (n : Int) x7 else if x7.length < 4398046511104 then delta_Over.l0 k' E' D' (n : Int) (x7 ++ [(⟨c.f0, c.f1⟩ : S47)]) else none) = some (x7 ++ (overL E D).take (n - x7.length)) := by
        intro c D' E' hl ho
        rw [ho]
        unfold put1
        by_cases hg : c.f2 = true
        · rw [if_pos hg, if_pos hg]
          exact ih E' D' hl (by omega) k' (by omega) x7 h7
        · rw [if_neg hg, if_neg hg, if_pos (by omega), take_push hlt]
          exact ih E' D' hl (by omega) k' (by omega) (x7 ++ [ent c]) (by rw [List.length_append]; simp; omega)
      cases D with
      | nil =>
        cases E with
        | nil => exact absurd rfl h0
        | cons e E =>
          rw [if_pos (show (([] : List S26).length : Int) = 0 from rfl)]
          exact EARM e E rfl (by rw [overL, overL])
      | cons c D =>
        rw [List.length_cons] at hm
        rw [if_neg (cons_ne0 c D)]
        cases E with
        | nil =>
          rw [if_neg nil_pos, delta_Over.j2, if_neg (by decide), if_pos (cons_pos c D), if_pos (cons_one c D), obs, if_neg nil_pos, delta_Over.j3, if_neg (by decide)]
          exact CARM c D [] (by omega) (by rw [overL])
        | cons e E =>
          rw [List.length_cons] at hm
          rw [if_pos (cons_pos e E), if_pos (cons_pos e E), if_pos (cons_pos c D)]
          show delta_Over.j2 (k' + 1 + 1) (e :: E) (c :: D) (n : Int) x7 (Op.bytesLess e.f0.toList c.f0.toList) = _
          by_cases h1 : e.f0.toList < c.f0.toList
          · rw [show Op.bytesLess e.f0.toList c.f0.toList = true by rw [bytesLess_eq, decide_eq_true_eq]; exact h1]
            exact EARM e E rfl (by rw [overL, if_pos h1])
          · rw [show Op.bytesLess e.f0.toList c.f0.toList = false by rw [bytesLess_eq, decide_eq_false_iff_not]; exact h1]
            rw [delta_Over.j2, if_neg (by decide), if_pos (cons_pos c D), if_pos (cons_one c D), obs, if_pos (cons_pos e E), if_pos (cons_pos e E), delta_Over.j3]
            show (if (e.f0.toList == c.f0.toList) = true then _ else _) = _
            by_cases h2 : e.f0.toList = c.f0.toList
            · rw [if_pos (by rw [h2]; exact beq_self_eq_true _), if_pos (cons_one e E), obs]
              exact CARM c D E (by omega) (by rw [overL, if_neg h1, if_pos h2])
            · rw [if_neg (by simpa using h2)]
              exact CARM c D (e :: E) (by simp; omega) (by rw [overL, if_neg h1, if_neg h2])
    · rw [if_neg (by simp; omega), show n - x7.length = 0 by omega, List.take_zero, List.append_nil]
theorem Over_calls {P0 P1 : Nat → Prop} {b0 b1 : Nat} (A0 A1 : Option Addr) (c0 c1 : Nat) (E : List S47) (D : List S26) (n : Nat) (w : World) (h0 : Kd.R k47 47 w b0 P0 (.slice A0 E.length c0) E) (h1 : Kd.R k26 26 w b1 P1 (.slice A1 D.length c1) D) (hn : n < 100000) (hl : E.length + D.length < 100000) :
    Calls Try.prog 20 #[.slice A0 E.length c0, .slice A1 D.length c1, .int .i64 (n : Int)] w fun e w' => ∃ v0_ : Value, e = .returned (v0_) ∧ Kd.R k47 47 w' w.heap.size (fun k_ => (w.heap.size ≤ k_)) v0_ ((overL E D).take n) ∧ Below w.heap.size w w' :=
  delta_Over.calls (4 * (E.length + D.length) + 2) P0 A0 c0 E P1 A1 c1 D (n : Int) ((overL E D).take n) w (Kd.R_V h0) (Kd.R_V h1) (Over_l0 n hn (E.length + D.length) E D (Nat.le_refl _) hl _ (Nat.le_refl _) [] (Nat.zero_le _))
/-- a number's key -/
def keyOf (a : Int) : ByteArray := strOfNums [(wrap64 (97 + (Go.bits .and .i64 a 15))) % 256, (wrap64 (97 + (Go.bits .and .i64 (a / 16) 15))) % 256]
theorem Key_calls (a : Int) (w : World) :
    Calls Try.prog 19 #[.agg #[.int .i64 0, .int .i64 a, .string ⟨#[]⟩, .int .i64 0]] w fun e w' => e = .returned (.string (keyOf a)) ∧ Below w.heap.size w w' := by
  refine lodestonelaw18_Key.calls 1 0 a ⟨#[]⟩ 0 (keyOf a) w ?_
  unfold lodestonelaw18_Key.f
  rw [lodestonelaw18_Key.l0, if_neg (by decide)]
  rfl
end Go.Proofs.Ytdkepbmpcbnkpaa.Dl
