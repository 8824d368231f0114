/- with is a change noted; a plain law. -/
import Derived.Test.YtdkepbmpcbnkpaaDlI
import Derived.Test.YtdkepbmpcbnkpaaPDeltaPlaysx5
namespace Go.Proofs.Ytdkepbmpcbnkpaa.Dl
open Go.RowKit Go.Proofs.YtdkepbmpcbnkpaaW.PrintWords Go.Proofs.YtdkepbmpcbnkpaaW.PrintLast Go.Proofs.YtdkepbmpcbnkpaaW.PrintMore Go.Proofs.Ytdkepbmpcbnkpaa.XB Go.Proofs.Ytdkepbmpcbnkpaa.PDeltaPlays
set_option linter.unusedVariables false
set_option linter.unusedSimpArgs false
variable {w w' : World} {p : At} {rv : Value} {l : List S26}
theorem rd_drop {i : Nat} (h : i < l.length) : l.drop i = rd_T26 l (i : Int) :: l.drop (i + 1) := by rw [rd_get h]; exact List.drop_eq_getElem_cons h
theorem rd_take {i : Nat} (h : i < l.length) : l.take (i + 1) = l.take i ++ [rd_T26 l (i : Int)] := by rw [rd_get h]; exact (List.take_append_getElem h).symm
theorem at_below (h : Rises l) (key : ByteArray) {i : Nat} (hi : i < atN l key) : lt (rd_T26 l (i : Int)) key = true := by
  have hl : i < l.length := Nat.lt_of_lt_of_le hi (atN_le l key)
  rw [rd_get hl]
  have e : (l.take (atN l key))[i]'(by rw [List.length_take]; omega) = l[i] := List.getElem_take
  rw [← e]
  exact (cut key h).1 _ (List.getElem_mem _)
theorem at_above (h : Rises l) (key : ByteArray) {i : Nat} (hi : atN l key ≤ i) (hl : i < l.length) : lt (rd_T26 l (i : Int)) key = false := by
  rw [rd_get hl]
  have e : (l.drop (atN l key))[i - atN l key]'(by rw [List.length_drop]; omega) = l[i] := by rw [List.getElem_drop]; congr 1; omega
  rw [← e]
  exact (cut key h).2 _ (List.getElem_mem _)
theorem rd_rises (h : Rises l) {s t : Nat} (hst : s < t) (ht : t < l.length) : (rd_T26 l (s : Int)).f0.toList < (rd_T26 l (t : Int)).f0.toList := by
  rw [rd_get ht, rd_get (by omega)]
  exact List.pairwise_iff_getElem.mp h s t (by omega) ht hst
theorem at_over (h : Rises l) (key : ByteArray) {i : Nat} (hi : atN l key < i) (hl : i < l.length) : (rd_T26 l (i : Int)).f0.toList ≠ key.toList := by
  intro e
  have h1 := at_above h key (Nat.le_refl _) (by omega : atN l key < l.length)
  have h2 := rd_rises h hi hl
  rw [e] at h2
  rw [(lt_iff _ _).mpr h2] at h1
  cases h1
/-- behind the place: the rest is as it was -/
theorem with_in (c : S26) (hl : l.length < 1000) : ∀ m i : Nat, i + m = l.length → ∀ x5 : List S26, x5.length + m < 100000 → (∀ t : Nat, i ≤ t → t < l.length → (rd_T26 l (t : Int)).f0.toList ≠ c.f0.toList) →
    lodestonelaw21_with.l0 (2 * m + 1) l x5 true (i : Int) c.f0 c.f1 c.f2 = some (x5 ++ l.drop i)
  | 0, i, h, x5, _, _ => by
    rw [lodestonelaw21_with.l0, if_neg (by omega), if_pos rfl, List.drop_of_length_le (by omega), List.append_nil]
  | m + 1, i, h, x5, h5, hk => by
    rw [show 2 * (m + 1) + 1 = (2 * m + 1) + 1 + 1 by omega, lodestonelaw21_with.l0, if_pos (by omega), if_pos rfl, lodestonelaw21_with.j1, if_neg (by decide), if_pos (by omega), if_pos (by omega), if_neg (hk i (Nat.le_refl _) (by omega)), if_pos (by omega), w64 (by omega) (by omega)]
    have := with_in c hl m (i + 1) (by omega) (x5 ++ [rd_T26 l (i : Int)]) (by rw [List.length_append]; simp; omega) (fun t h1 h2 => hk t (by omega) h2)
    rw [rd_drop (by omega : i < l.length)]
    rw [List.append_assoc] at this
    exact this
theorem with_out (h : Rises l) (c : S26) (hl : l.length < 1000) (hc : c.f0.toList ≠ []) : ∀ m i : Nat, i + m = l.length → i ≤ atN l c.f0 →
    lodestonelaw21_with.l0 (2 * m + 1) l (l.take i) false (i : Int) c.f0 c.f1 c.f2 = some (putL l c)
  | 0, i, hi, hn => by
    have hn2 := atN_le l c.f0
    have e : atN l c.f0 = i := by omega
    rw [lodestonelaw21_with.l0, if_neg (by omega), if_neg (by decide), if_pos (by rw [List.length_take]; omega)]
    unfold putL insC
    rw [if_neg hc, if_neg (fun hh => by have := hh.1; omega), e, List.drop_of_length_le (by omega), List.append_nil]
  | m + 1, i, hi, hn => by
    by_cases hlt : i < atN l c.f0
    · have hb := at_below h c.f0 hlt
      have hne : (rd_T26 l (i : Int)).f0.toList ≠ c.f0.toList := fun e => by
        rw [lt_iff, e] at hb
        exact List.lt_irrefl _ hb
      unfold lt at hb
      rw [show 2 * (m + 1) + 1 = (2 * m + 1) + 1 + 1 by omega, lodestonelaw21_with.l0, if_pos (by omega), if_neg (by decide), if_pos (by omega), hb, lodestonelaw21_with.j1, if_neg (by decide), if_pos (by omega), if_pos (by omega), if_neg hne, if_pos (by rw [List.length_take]; omega), w64 (by omega) (by omega)]
      have := with_out h c hl hc m (i + 1) (by omega) hlt
      rw [rd_take (by omega)] at this
      exact this
    · have e : atN l c.f0 = i := by omega
      have hb := at_above h c.f0 (Nat.le_of_eq e) (by omega)
      unfold lt at hb
      have hover := fun (t : Nat) (h1 : i + 1 ≤ t) (h2 : t < l.length) => at_over h c.f0 (by omega : atN l c.f0 < t) h2
      rw [show 2 * (m + 1) + 1 = (2 * m + 1) + 1 + 1 by omega, lodestonelaw21_with.l0, if_pos (by omega), if_neg (by decide), if_pos (by omega), hb, lodestonelaw21_with.j1, if_pos (by decide), if_pos (by rw [List.length_take]; omega), obs, if_pos (by omega), if_pos (by omega)]
      unfold putL
      rw [if_neg hc, e]
      by_cases hk : (rd_T26 l (i : Int)).f0.toList = c.f0.toList
      · rw [if_pos hk, if_pos ⟨by omega, hk⟩, w64 (by omega) (by omega)]
        refine (with_in c hl m (i + 1) (by omega) _ (by simp; omega) hover).trans ?_
        rw [List.set_eq_take_append_cons_drop, if_pos (by omega), List.append_assoc]
        rfl
      · rw [if_neg hk, if_neg (show ¬ (i < l.length ∧ (rd_T26 l (i : Int)).f0.toList = c.f0.toList) from fun hh => hk hh.2), if_pos (by simp; omega), w64 (by omega) (by omega)]
        refine (with_in c hl m (i + 1) (by omega) _ (by simp; omega) hover).trans ?_
        unfold insC
        rw [rd_drop (by omega : i < l.length)]
        simp [List.append_assoc]
theorem with_calls (A : Option Addr) (c : Nat) (h : Rises l) (x : S26) (w : World) (hC : Kd.C k26 w A l.length l) (hc : l.length ≤ c) (hl : l.length < 1000) (hx : x.f0.toList ≠ []) :
    Calls Try.prog 9 #[.slice A l.length c, .agg #[.string x.f0, .string x.f1, .bool x.f2]] w fun e w' => ∃ v0_ : Value, e = .returned (v0_) ∧ Kd.R k26 26 w' w.heap.size (fun _ => True) v0_ (putL l x) ∧ Below w.heap.size w w' :=
  lodestonelaw21_with.calls (2 * l.length + 1) A c l x.f0 x.f1 x.f2 (putL l x) w hC hc (with_out h x hl hx l.length 0 (by omega) (Nat.zero_le _))
end Go.Proofs.Ytdkepbmpcbnkpaa.Dl
