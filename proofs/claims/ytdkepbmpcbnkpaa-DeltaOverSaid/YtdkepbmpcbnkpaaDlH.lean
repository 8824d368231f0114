/- Changes noted, plainly: rising, found again; same, few, awake. -/
import Derived.Test.YtdkepbmpcbnkpaaDlG
import Derived.Test.YtdkepbmpcbnkpaaPDeltaPlaysx4
namespace Go.Proofs.Ytdkepbmpcbnkpaa.Dl
open Go.RowKit Go.Proofs.YtdkepbmpcbnkpaaW.PrintWords Go.Proofs.YtdkepbmpcbnkpaaW.PrintLast Go.Proofs.YtdkepbmpcbnkpaaW.PrintMore Go.Proofs.Ytdkepbmpcbnkpaa.XB Go.Proofs.Ytdkepbmpcbnkpaa.PDeltaPlays
attribute [local go_sem] max2_int min2_int max_two min_two max_three min_three max_four min_four
set_option linter.unusedVariables false
set_option linter.unusedSimpArgs false
variable {w w' : World} {p : At} {rv : Value} {l : List S26}
/-- those below a key stand first -/
theorem cut (key : ByteArray) : ∀ {l : List S26}, Rises l → (∀ x ∈ l.take (atN l key), lt x key = true) ∧ (∀ x ∈ l.drop (atN l key), lt x key = false)
  | [], _ => ⟨fun x h => by simp at h, fun x h => by simp at h⟩
  | a :: r, h => by
    have hr := List.pairwise_cons.mp h
    obtain ⟨h1, h2⟩ := cut key (l := r) hr.2
    cases ha : lt a key with
    | true =>
      have e : atN (a :: r) key = atN r key + 1 := by exact List.countP_cons_of_pos (p := fun x => lt x key) ha
      rw [e]
      refine ⟨fun x hx => ?_, fun x hx => h2 x hx⟩
      rcases List.mem_cons.mp hx with rfl | hx
      · exact ha
      · exact h1 x hx
    | false =>
      have hall : ∀ x ∈ a :: r, lt x key = false := by
        intro x hx
        rcases List.mem_cons.mp hx with rfl | hx
        · exact ha
        · cases hc : lt x key with
          | false => rfl
          | true =>
            rw [lt_iff] at hc
            have := (lt_iff a key).mpr (List.lt_trans (hr.1 x hx) hc)
            rw [this] at ha
            cases ha
      have e : atN (a :: r) key = 0 := by
        unfold atN
        rw [List.countP_eq_zero]
        intro x hx hc
        rw [hall x hx] at hc
        cases hc
      rw [e]
      exact ⟨fun x hx => by simp at hx, fun x hx => hall x hx⟩
theorem lt_tri {x : S26} {key : ByteArray} (h1 : lt x key = false) (h2 : x.f0.toList ≠ key.toList) : key.toList < x.f0.toList := by
  have h3 : ¬ x.f0.toList < key.toList := fun h => by rw [(lt_iff x key).mpr h] at h1; cases h1
  rcases List.le_iff_lt_or_eq.mp (List.not_lt.mp h3) with h | h
  · exact h
  · exact absurd h.symm h2
theorem rises_keys (l : List S26) : Rises l ↔ (l.map (fun x => x.f0.toList)).Pairwise (· < ·) := by
  unfold Rises
  rw [List.pairwise_map]
theorem set_keys {l : List S26} {n : Nat} {x : S26} (hn : n < l.length) (he : (rd_T26 l (n : Int)).f0.toList = x.f0.toList) : (l.set n x).map (fun x => x.f0.toList) = l.map (fun x => x.f0.toList) := by
  rw [List.map_set]
  refine List.ext_getElem (by simp) fun q h1 h2 => ?_
  rw [List.getElem_set]
  split
  · rename_i c
    subst c
    rw [List.getElem_map, ← he, rd_get hn]
  · rfl
theorem atN_keys (l : List S26) (key : ByteArray) : atN l key = (l.map (fun x => x.f0.toList)).countP (fun k => Op.bytesLess k key.toList) := by
  unfold atN
  rw [List.countP_map]
  rfl
/-- behind a change that is noted: rising; the change has its place -/
theorem putL_rises (h : Rises l) (x : S26) : Rises (putL l x) := by
  unfold putL
  split
  · exact h
  · split
    · rename_i c
      rw [rises_keys, set_keys c.1 c.2, ← rises_keys]
      exact h
    · rename_i c
      obtain ⟨h1, h2⟩ := cut x.f0 h
      obtain ⟨n, hn⟩ : ∃ n, atN l x.f0 = n := ⟨_, rfl⟩
      rw [hn] at h1 h2 c ⊢
      have h3 : ∀ y ∈ l.drop n, x.f0.toList < y.f0.toList := by
        intro y hy
        refine lt_tri (h2 y hy) fun e => ?_
        obtain ⟨j, hj, rfl⟩ := List.getElem_of_mem hy
        rw [List.length_drop] at hj
        rw [List.getElem_drop] at e
        have hnl : n < l.length := by omega
        rcases Nat.eq_zero_or_pos j with rfl | hj0
        · exact c ⟨hnl, by rw [rd_get hnl]; exact e⟩
        · have h4 := List.pairwise_iff_getElem.mp h n (n + j) hnl (by omega) (by omega)
          have h5 := h2 l[n] (by rw [List.mem_drop_iff_getElem]; exact ⟨0, by omega, rfl⟩)
          have h6 : lt l[n] x.f0 = true := by rw [lt_iff, ← e]; exact h4
          rw [h6] at h5
          cases h5
      unfold insC Rises
      rw [List.append_assoc, List.pairwise_append]
      refine ⟨List.Pairwise.sublist (List.take_sublist n l) h, ?_, ?_⟩
      · rw [List.singleton_append, List.pairwise_cons]
        exact ⟨h3, List.Pairwise.sublist (List.drop_sublist n l) h⟩
      · intro a ha b hb
        have ha2 := (lt_iff a x.f0).mp (h1 a ha)
        rw [List.singleton_append] at hb
        rcases List.mem_cons.mp hb with rfl | hb
        · exact ha2
        · exact List.lt_trans ha2 (h3 b hb)
theorem putL_length (l : List S26) (x : S26) : (putL l x).length ≤ l.length + 1 := by
  unfold putL
  split
  · omega
  · split
    · rw [List.length_set]; omega
    · rw [insC_length _ _ _ (atN_le _ _)]
      exact Nat.le_refl _
theorem putL_mem {l : List S26} {x y : S26} (h : y ∈ putL l x) : y ∈ l ∨ y = x := by
  unfold putL at h
  split at h
  · exact .inl h
  · split at h
    · rcases List.mem_or_eq_of_mem_set h with h | h
      · exact .inl h
      · exact .inr h
    · unfold insC at h
      rw [List.append_assoc, List.mem_append, List.singleton_append, List.mem_cons] at h
      rcases h with h | h | h
      · exact .inl (List.mem_of_mem_take h)
      · exact .inr h
      · exact .inl (List.mem_of_mem_drop h)
/-- a new key makes it longer by one -/
theorem putL_new {l : List S26} {x : S26} (hne : x.f0.toList ≠ []) (h : ∀ y ∈ l, y.f0.toList ≠ x.f0.toList) : (putL l x).length = l.length + 1 := by
  unfold putL
  rw [if_neg hne, if_neg, insC_length _ _ _ (atN_le _ _)]
  rintro ⟨h1, h2⟩
  rw [rd_get h1] at h2
  exact h _ (List.getElem_mem h1) h2
/-- what was noted is told -/
theorem getL_put (h : Rises l) (x : S26) (hne : x.f0.toList ≠ []) : getL (putL l x) x.f0 = (x, true) := by
  have hat : ∀ l' : List S26, atN l' x.f0 = atN l x.f0 → (hl : atN l x.f0 < l'.length) → rd_T26 l' (atN l x.f0 : Nat) = x → getL l' x.f0 = (x, true) := by
    intro l' e hl er
    unfold getL
    rw [e, er, if_pos ⟨hl, rfl⟩]
  unfold putL
  rw [if_neg hne]
  split
  · rename_i c
    refine hat _ ?_ (by rw [List.length_set]; exact c.1) ?_
    · rw [atN_keys, set_keys c.1 c.2, ← atN_keys]
    · rw [rd_get (by rw [List.length_set]; exact c.1), List.getElem_set_self]
  · rename_i c
    obtain ⟨h1, h2⟩ := cut x.f0 h
    have hle := atN_le l x.f0
    obtain ⟨n, hn⟩ : ∃ n, atN l x.f0 = n := ⟨_, rfl⟩
    rw [hn] at h1 h2 hle c hat ⊢
    have ht : (l.take n).length = n := by rw [List.length_take, Nat.min_eq_left hle]
    refine hat _ ?_ (by rw [insC_length _ _ _ hle]; omega) ?_
    · show (l.take n ++ [x] ++ l.drop n).countP (fun y => lt y x.f0) = n
      rw [List.countP_append, List.countP_append]
      have e1 : (l.take n).countP (fun y => lt y x.f0) = n := (List.countP_eq_length.mpr (fun y hy => h1 y hy)).trans ht
      have e2 : (l.drop n).countP (fun y => lt y x.f0) = 0 := List.countP_eq_zero.mpr (fun y hy hc => by rw [h2 y hy] at hc; cases hc)
      have e3 : [x].countP (fun y => lt y x.f0) = 0 := by
        rw [List.countP_eq_zero]
        intro y hy hc
        rw [List.mem_singleton] at hy
        subst hy
        rw [lt_iff] at hc
        exact List.lt_irrefl _ hc
      rw [e1, e2, e3, Nat.add_zero]
    · show (insC l n x).getD ((n : Nat) : Int).toNat z26 = x
      rw [Int.toNat_natCast, List.getD_eq_getElem?_getD]
      unfold insC
      rw [List.append_assoc, List.getElem?_append_right (by omega), ht, Nat.sub_self]
      rfl
/-- no key: nothing is told -/
theorem getL_none (l : List S26) (key : ByteArray) (h : ∀ y ∈ l, y.f0.toList ≠ key.toList) : getL l key = (z26, false) := by
  unfold getL
  rw [if_neg]
  rintro ⟨h1, h2⟩
  rw [rd_get h1] at h2
  exact h _ (List.getElem_mem h1) h2
theorem putL_ne (h : ∀ y ∈ l, y.f0.toList ≠ []) (x : S26) : ∀ y ∈ putL l x, y.f0.toList ≠ [] := by
  intro y hy
  by_cases hx : x.f0.toList = []
  · unfold putL at hy
    rw [if_pos hx] at hy
    exact h y hy
  · rcases putL_mem hy with hy | rfl
    · exact h y hy
    · exact hx
theorem same_l0 (l : List S26) (hl : l.length < 1000000) : ∀ m i : Nat, i + m = l.length → lodestonelaw21_same.l0 (m + 1) l l (i : Int) = some true
  | 0, i, h => by
    show (if (i : Int) < (l.length : Int) then _ else some true) = some true
    rw [if_neg (by omega)]
  | m + 1, i, h => by
    show (if (i : Int) < (l.length : Int) then (if 0 ≤ (i : Int) then (if (i : Int) < (l.length : Int) then (if (!((((rd_T26 l i).f0).toList) == (((rd_T26 l i).f0).toList)) || (!((((rd_T26 l i).f1).toList) == (((rd_T26 l i).f1).toList)) || (!(((rd_T26 l i).f2) == ((rd_T26 l i).f2))))) = true then (some false) else (lodestonelaw21_same.l0 (m + 1) l l (wrap64 ((i : Int) + 1)))) else (none)) else (none)) else (some true)) = some true
    rw [if_pos (by omega), if_pos (by omega), if_pos (by omega), if_neg (by simp), w64 (by omega) (by omega)]
    exact same_l0 l hl m (i + 1) (by omega)
theorem same_calls (A0 A1 : Option Addr) (c0 c1 : Nat) (l : List S26) (w : World) (hr0 : Kd.C k26 w A0 l.length l) (hc0 : l.length ≤ c0) (hr1 : Kd.C k26 w A1 l.length l) (hc1 : l.length ≤ c1) (hl : l.length < 1000000) :
    Calls Try.prog 13 #[.slice A0 l.length c0, .slice A1 l.length c1] w fun e w' => e = .returned (.bool true) ∧ Below w.heap.size w w' := by
  refine (lodestonelaw21_same.calls (l.length + 1) A0 c0 l A1 c1 l true w hr0 hc0 hr1 hc1 ?_).mono ?_
  · unfold lodestonelaw21_same.f
    rw [if_pos rfl]
    exact same_l0 l hl l.length 0 (by omega)
  · rintro e w' ⟨rfl, h⟩
    obtain ⟨n, rfl⟩ := h
    exact ⟨rfl, pw_below_drewN (Below.refl _ _) n⟩
theorem few_ex (x : S26) : ∃ y : S26, lodestonelaw21_few.f x.f0 x.f1 x.f2 = some (y.f0, y.f1, y.f2) ∧ y.f0.toList.length ≤ 2 := by
  have h0 : 0 ≤ mn (x.f0.size : Int) 2 ∧ mn (x.f0.size : Int) 2 ≤ (x.f0.size : Int) ∧ mn (x.f0.size : Int) 2 ≤ 2 := by unfold mn; (repeat' split) <;> omega
  have h1 : 0 ≤ mn (x.f1.size : Int) 5 ∧ mn (x.f1.size : Int) 5 ≤ (x.f1.size : Int) := by unfold mn; (repeat' split) <;> omega
  refine ⟨⟨x.f0.extract 0 (mn (x.f0.size : Int) 2).toNat, x.f1.extract 0 (mn (x.f1.size : Int) 5).toNat, x.f2⟩, ?_, ?_⟩
  · unfold lodestonelaw21_few.f
    rw [if_pos h0.1, if_pos h0.2.1, if_pos h1.1, if_pos h1.2]
  · show (x.f0.extract 0 (mn (x.f0.size : Int) 2).toNat).toList.length ≤ 2
    rw [toList_data, Array.length_toList]
    show (x.f0.extract 0 (mn (x.f0.size : Int) 2).toNat).size ≤ 2
    rw [ByteArray.size_extract]
    omega
end Go.Proofs.Ytdkepbmpcbnkpaa.Dl
