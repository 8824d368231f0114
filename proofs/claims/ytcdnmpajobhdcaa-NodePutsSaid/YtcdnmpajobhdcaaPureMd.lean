/- made ends, whatever comes; what it hands back, and its contract. -/
import Derived.Test.YtcdnmpajobhdcaaPureN
import Derived.Test.YtcdnmpajobhdcaaPNodePutsx14
import Derived.Test.YtcdnmpajobhdcaaMdD
namespace Go.Proofs.Ytcdnmpajobhdcaa.Pure
open Go.RowKit Go.Proofs.Ytcdnmpajobhdcaa.PNodePuts Go.Proofs.Ytcdnmpajobhdcaa.Nd Go.Proofs.YtcdnmpajobhdcaaW.PrintWords Go.Proofs.YtcdnmpajobhdcaaW.PrintLast Go.Proofs.YtcdnmpajobhdcaaW.PrintMore Go.Proofs.Ytcdnmpajobhdcaa.XB
set_option linter.unusedVariables false
set_option linter.unusedSimpArgs false
theorem mn_parts (n : Nat) (m : Int) (h : 0 ≤ m) : 0 ≤ mn (n : Int) m ∧ mn (n : Int) m ≤ (n : Int) ∧ (mn (n : Int) m).toNat ≤ m.toNat := by
  unfold mn
  split <;> omega
theorem cut_size (s : ByteArray) (n : Nat) : (s.extract 0 n).size ≤ n := by rw [ByteArray.size_extract]; omega
/-- entries that are short enough -/
def GE (l : List S43) : Prop := ∀ x ∈ l, x.f0.size ≤ 96 ∧ x.f1.size ≤ 80
theorem GE_ins {l : List S43} (h : GE l) (i : Nat) {x : S43} (hx : x.f0.size ≤ 96 ∧ x.f1.size ≤ 80) : GE (insE l i x) := by
  intro y hy
  rw [insE, List.mem_append, List.mem_append, List.mem_singleton] at hy
  rcases hy with (hy | hy) | hy
  · exact h y (List.mem_of_mem_take hy)
  · exact hy ▸ hx
  · exact h y (List.mem_of_mem_drop hy)
theorem ins_length (l : List S43) (i : Nat) (x : S43) : (insE l i x).length = l.length + 1 := by
  rw [insE, List.length_append, List.length_append, List.length_take, List.length_drop]
  show min i l.length + 1 + (l.length - i) = _
  omega
theorem sorted_in (l out : List S43) (i : Nat) (a0 a1 : ByteArray) (h0 : a0.size ≤ 96) (h1 : a1.size ≤ 80) (hi : i ≤ 11) (ho : out.length ≤ i) (hg : GE out) (K : Nat)
    (H : ∀ (o : List S43), o.length ≤ i + 1 → GE o → ∀ k, K ≤ k → ∃ r, lodestonelaw17_Sorted.l0 k l o ((i + 1 : Nat) : Int) = some r ∧ r.length ≤ 12 ∧ GE r) :
    ∀ (d at_ k : Nat) (b : Bool), at_ + d = out.length → d + 1 + K ≤ k → ∃ r, lodestonelaw17_Sorted.l1 k l out (i : Int) (at_ : Int) b a0 a1 = some r ∧ r.length ≤ 12 ∧ GE r := by
  have hins : ∀ q : Nat, (insE out q (⟨a0, a1⟩ : S43)).length ≤ i + 1 ∧ GE (insE out q (⟨a0, a1⟩ : S43)) := fun q => ⟨by rw [ins_length]; omega, GE_ins hg q ⟨h0, h1⟩⟩
  have hw : wrap64 ((i : Int) + 1) = ((i + 1 : Nat) : Int) := w64s i (by omega)
  intro d
  induction d with
  | zero =>
    intro at_ k b hd hk
    obtain ⟨k, rfl⟩ : ∃ m, k = m + 1 := ⟨k - 1, by omega⟩
    rw [lodestonelaw17_Sorted.l1, if_neg (by omega), hw]
    by_cases hb : b = true
    · rw [if_pos hb]; exact H out (by omega) hg k (by omega)
    · rw [if_neg hb, if_pos (by omega), if_pos (by omega), if_pos (by omega)]
      exact H _ (hins _).1 (hins _).2 k (by omega)
  | succ d ih =>
    intro at_ k b hd hk
    obtain ⟨k, rfl⟩ : ∃ m, k = m + 1 := ⟨k - 1, by omega⟩
    have hw2 : wrap64 ((at_ : Int) + 1) = ((at_ + 1 : Nat) : Int) := w64s at_ (by omega)
    rw [lodestonelaw17_Sorted.l1, if_pos (by omega), if_pos (by omega), hw, hw2]
    by_cases hc : Op.bytesLess a0.toList ((rd_T43 out (at_ : Int)).f0).toList = true
    · rw [if_pos hc]
      by_cases hb : b = true
      · rw [if_pos hb]; exact H out (by omega) hg k (by omega)
      · rw [if_neg hb, if_pos (by omega)]
        exact H _ (hins _).1 (hins _).2 k (by omega)
    · rw [if_neg hc]
      by_cases hb : b = true
      · rw [if_pos hb]; exact ih (at_ + 1) k true (by omega) (by omega)
      · rw [if_neg hb]; exact ih (at_ + 1) k _ (by omega) (by omega)
theorem sorted_l0 (l : List S43) : ∀ (d i k : Nat) (out : List S43), i + d = 12 → 20 * (d + 1) ≤ k → out.length ≤ i → GE out → ∃ r, lodestonelaw17_Sorted.l0 k l out (i : Int) = some r ∧ r.length ≤ 12 ∧ GE r := by
  intro d
  induction d with
  | zero =>
    intro i k out hd hk ho hg
    obtain ⟨k, rfl⟩ : ∃ m, k = m + 2 := ⟨k - 2, by omega⟩
    have e : decide ((i : Int) < 12) = false := decide_eq_false (by omega)
    refine ⟨out, ?_, by omega, hg⟩
    rw [lodestonelaw17_Sorted.l0, e, ite_self, lodestonelaw17_Sorted.j1, if_neg (by decide)]
  | succ d ih =>
    intro i k out hd hk ho hg
    obtain ⟨k, rfl⟩ : ∃ m, k = m + 2 := ⟨k - 2, by omega⟩
    have e : decide ((i : Int) < 12) = true := decide_eq_true (by omega)
    rw [lodestonelaw17_Sorted.l0, e]
    by_cases hl : (i : Int) < (l.length : Int)
    · obtain ⟨x, hx⟩ : ∃ x, rd_T43 l (i : Int) = x := ⟨_, rfl⟩
      obtain ⟨m1, m2, m3⟩ := mn_parts x.f0.size 96 (by decide)
      obtain ⟨m4, m5, m6⟩ := mn_parts x.f1.size 80 (by decide)
      rw [if_pos hl, lodestonelaw17_Sorted.j1, if_pos rfl, if_pos (by omega), if_pos hl, hx, if_pos m1, if_pos m2, if_pos m4, if_pos m5]
      exact sorted_in l out i _ _ (Nat.le_trans (cut_size _ _) m3) (Nat.le_trans (cut_size _ _) m6) (by omega) ho hg (20 * (d + 1)) (fun o h1 h2 k' hk' => ih (i + 1) k' o (by omega) hk' h1 h2) out.length 0 k _ (by omega) (by omega)
    · rw [if_neg hl, lodestonelaw17_Sorted.j1, if_neg (by decide)]
      exact ⟨out, rfl, by omega, hg⟩
theorem sorted_k (l : List S43) : ∃ r, lodestonelaw17_Sorted.f 300 l = some r ∧ r.length ≤ 12 ∧ GE r :=
  sorted_l0 l 12 0 300 [] rfl (by decide) (Nat.le_refl _) (fun x h => absurd h List.not_mem_nil)
def pad : ByteArray := (⟨#[48, 49, 50, 51, 52, 53, 54, 55, 56, 57, 97, 98, 99, 100, 101, 102, 48, 49, 50, 51, 52, 53, 54, 55, 56, 57, 97, 98, 99, 100, 101, 102]⟩ : ByteArray)
theorem sum_k (s : ByteArray) (h : s.size ≤ 140737488355328) : ∃ t : ByteArray, lodestonelaw17_sum.f s = some t ∧ t.size = 32 := by
  have e : (s ++ pad).size = s.size + 32 := by rw [ByteArray.size_append]; rfl
  unfold lodestonelaw17_sum.f
  rw [if_pos (by omega), if_pos (by decide)]
  change ∃ t, (if 32 ≤ ((s ++ pad).size : Int) then some ((s ++ pad).extract 0 32) else none) = some t ∧ _
  rw [if_pos (by omega)]
  exact ⟨_, rfl, by rw [ByteArray.size_extract]; omega⟩
theorem place_ok (n : Nat) (h : n ≤ 140737488355328) : 0 ≤ Int.tmod (wrap64 ((n : Int) * 37)) 4200 ∧ Int.tmod (wrap64 ((n : Int) * 37)) 4200 < 18446744073709551616 := by
  have e : wrap64 ((n : Int) * 37) = (n : Int) * 37 := w64 (by omega) (by omega)
  rw [e, tm (by omega)]
  omega
theorem madeA_l0 (t : List S43) (h0 : t.length ≤ 100) (hz : ∀ i, i < t.length → szE (rd_T43 t (i : Int))) : ∀ (d i k : Nat) (acc : List S41), i + d = t.length → d + 1 ≤ k → acc.length = i → (∀ x ∈ acc, szK x) →
    ∃ ks, madeA.l0 k t (i : Int) acc = some ([], ks) ∧ ks.length = t.length ∧ ∀ x ∈ ks, szK x := by
  intro d
  induction d with
  | zero =>
    intro i k acc hi hk ha hs
    obtain ⟨k, rfl⟩ : ∃ m, k = m + 1 := ⟨k - 1, by omega⟩
    exact ⟨acc, by rw [madeA.l0, if_neg (by omega)], by omega, hs⟩
  | succ d ih =>
    intro i k acc hi hk ha hs
    obtain ⟨k, rfl⟩ : ∃ m, k = m + 1 := ⟨k - 1, by omega⟩
    obtain ⟨z1, z2⟩ := hz i (by omega)
    obtain ⟨x, hx⟩ : ∃ x, rd_T43 t (i : Int) = x := ⟨_, rfl⟩
    rw [hx] at z1 z2
    obtain ⟨q, hq, hq2⟩ := sum_k x.f1 z2
    have hp := place_ok x.f1.size z2
    rw [madeA.l0, if_pos (by omega), if_pos (by omega), hx, hq]
    simp only [obs]
    rw [if_pos (by omega), w64s i (by omega)]
    refine ih (i + 1) k _ (by omega) (by omega) (by rw [List.length_append, ha]; rfl) (fun y hy => ?_)
    rw [List.mem_append, List.mem_singleton] at hy
    rcases hy with hy | hy
    · exact hs y hy
    · subst hy
      exact ⟨z1, by show q.size ≤ _; omega, hp.1, hp.2⟩
theorem madeB_l0 (t : List S43) (h0 : t.length ≤ 100) (hz : ∀ i, i < t.length → szE (rd_T43 t (i : Int))) : ∀ (d i k : Nat) (acc : List S41), i + d = t.length → d + 1 ≤ k → acc.length = i → (∀ x ∈ acc, szK x) →
    ∃ ks, madeB.l0 k t (i : Int) acc = some ([], ks) ∧ ks.length = t.length ∧ ∀ x ∈ ks, szK x := by
  intro d
  induction d with
  | zero =>
    intro i k acc hi hk ha hs
    obtain ⟨k, rfl⟩ : ∃ m, k = m + 1 := ⟨k - 1, by omega⟩
    exact ⟨acc, by rw [madeB.l0, if_neg (by omega)], by omega, hs⟩
  | succ d ih =>
    intro i k acc hi hk ha hs
    obtain ⟨k, rfl⟩ : ∃ m, k = m + 1 := ⟨k - 1, by omega⟩
    obtain ⟨z1, z2⟩ := hz i (by omega)
    obtain ⟨x, hx⟩ : ∃ x, rd_T43 t (i : Int) = x := ⟨_, rfl⟩
    rw [hx] at z1 z2
    obtain ⟨q, hq, hq2⟩ := sum_k x.f1 z2
    have hp := place_ok x.f1.size z2
    rw [madeB.l0, if_pos (by omega), if_pos (by omega), hx, hq]
    simp only [obs]
    rw [if_pos (by omega), w64s i (by omega)]
    refine ih (i + 1) k _ (by omega) (by omega) (by rw [List.length_append, ha]; rfl) (fun y hy => ?_)
    rw [List.mem_append, List.mem_singleton] at hy
    rcases hy with hy | hy
    · exact hs y hy
    · subst hy
      exact ⟨z1, by show q.size ≤ _; omega, hp.1, hp.2⟩
theorem szE_of {l : List S43} (h : GE l) : ∀ i, i < l.length → szE (rd_T43 l (i : Int)) := fun i hi => by
  have e : rd_T43 l (i : Int) = l[i] := by rw [rd_T43, Int.toNat_natCast, List.getD_eq_getElem?_getD, List.getElem?_eq_getElem hi]; rfl
  have := h _ (List.getElem_mem hi)
  rw [← e] at this
  exact ⟨by omega, by omega⟩
theorem szK_of {l : List S41} (h : ∀ x ∈ l, szK x) : ∀ i, i < l.length → szK (rd_T41 l (i : Int)) := fun i hi => by
  have e : rd_T41 l (i : Int) = l[i] := by rw [rd_T41, Int.toNat_natCast, List.getD_eq_getElem?_getD, List.getElem?_eq_getElem hi]; rfl
  rw [e]
  exact h _ (List.getElem_mem hi)
theorem take_get (l : List S43) (n i : Nat) (hi : i < (l.take n).length) : rd_T43 (l.take n) (i : Int) = rd_T43 l (i : Int) := by
  have h2 : i < n ∧ i < l.length := by rw [List.length_take] at hi; omega
  rw [rd_T43, rd_T43, Int.toNat_natCast, List.getD_eq_getElem?_getD, List.getD_eq_getElem?_getD, List.getElem?_take, if_pos h2.1]
theorem sz_take {l : List S43} (h : ∀ i, i < l.length → szE (rd_T43 l (i : Int))) (n : Nat) : ∀ i, i < (l.take n).length → szE (rd_T43 (l.take n) (i : Int)) := fun i hi => by
  rw [take_get l n i hi]
  exact h i (by rw [List.length_take] at hi; omega)
theorem nil_C (w : World) : Kd.C k41 w none ([] : List S41).length [] := ⟨rfl, by decide, fun h => absurd h (by decide)⟩
theorem made_k (l : List S43) (A : Option Addr) (c : Nat) (kids order : Bool) (w : World) (hC : Kd.C k43 w A l.length l) (hc : l.length ≤ c) (hz : ∀ i, i < l.length → szE (rd_T43 l (i : Int))) :
    ∃ es ks, szN es ks ∧ Calls Try.prog 5 #[.slice A l.length c, .bool kids, .bool order] w fun e w' => ∃ (A0 : Option Addr) (c0 : Nat) (A1 : Option Addr) (c1 : Nat), e = .returned (.agg #[.slice A0 es.length c0, .slice A1 ks.length c1]) ∧ Kd.C k43 w' A0 es.length es ∧ es.length ≤ c0 ∧ Kd.C k41 w' A1 ks.length ks ∧ ks.length ≤ c1 ∧ Below w.heap.size w w' := by
  obtain ⟨r, hr, hr2, hr3⟩ := sorted_k l
  have wrap_ : ∀ (es : List S43) (ks : List S41) (args : Array Value), Calls Try.prog 5 args w (fun e w' => ∃ v0_ v1_ : Value, e = .returned (.agg #[v0_, v1_]) ∧ Kd.R k43 43 w' w.heap.size (fun _ => True) v0_ es ∧ Kd.R k41 41 w' w.heap.size (fun _ => True) v1_ ks ∧ Below w.heap.size w w') →
      Calls Try.prog 5 args w fun e w' => ∃ (A0 : Option Addr) (c0 : Nat) (A1 : Option Addr) (c1 : Nat), e = .returned (.agg #[.slice A0 es.length c0, .slice A1 ks.length c1]) ∧ Kd.C k43 w' A0 es.length es ∧ es.length ≤ c0 ∧ Kd.C k41 w' A1 ks.length ks ∧ ks.length ≤ c1 ∧ Below w.heap.size w w' := by
    intro es ks args h
    refine h.mono ?_
    rintro e w' ⟨v0, v1, rfl, h0, h1, hb⟩
    obtain ⟨A0, c0, rfl⟩ := Kd.R_slice h0
    obtain ⟨A1, c1, rfl⟩ := Kd.R_slice h1
    exact ⟨A0, c0, A1, c1, rfl, (Kd.R_reads' h0).2.2, (Kd.R_reads' h0).2.1, (Kd.R_reads' h1).2.2, (Kd.R_reads' h1).2.1, hb⟩
  have szr := szE_of hr3
  cases kids with
  | true =>
    cases order with
    | true =>
      obtain ⟨ks, h1, h2, h3⟩ := madeA_l0 r (by omega) szr r.length 0 300 [] (by omega) (by omega) rfl (fun x h => absurd h List.not_mem_nil)
      have hf : madeA.f 300 l true true = some ([], ks) := by unfold madeA.f; rw [hr]; exact h1
      exact ⟨[], ks, ⟨by decide, by omega, fun i hi => absurd hi (by simp), szK_of h3⟩, wrap_ _ _ _ (madeA.calls 300 A c l true true [] ks w hC hc hf)⟩
    | false =>
      have hmn : (mn (l.length : Int) 12).toNat ≤ 12 ∧ 0 ≤ mn (l.length : Int) 12 ∧ mn (l.length : Int) 12 ≤ (l.length : Int) := by unfold mn; split <;> omega
      obtain ⟨t, ht⟩ : ∃ t, l.take (mn (l.length : Int) 12).toNat = t := ⟨_, rfl⟩
      have htl : t.length ≤ 12 := by rw [← ht, List.length_take]; omega
      obtain ⟨ks, h1, h2, h3⟩ := madeB_l0 t (by omega) (ht ▸ sz_take hz _) t.length 0 300 [] (by omega) (by omega) rfl (fun x h => absurd h List.not_mem_nil)
      have hf : madeB.f 300 l true true = some ([], ks) := by
        unfold madeB.f
        rw [hr]
        simp only [obs]
        rw [if_pos hmn.2.1, if_pos hmn.2.2, ht]
        exact h1
      exact ⟨[], ks, ⟨by decide, by omega, fun i hi => absurd hi (by simp), szK_of h3⟩, wrap_ _ _ _ (madeB.calls 300 A c l true true [] ks w hC hc hf)⟩
  | false =>
    cases order with
    | true =>
      have hf : madeC.f 300 l true true = some (r, []) := by unfold madeC.f; rw [hr]; rfl
      exact ⟨r, [], ⟨by omega, by decide, szr, fun i hi => absurd hi (by simp)⟩, wrap_ _ _ _ (madeC.calls 300 A c l true true r [] w hC hc hf)⟩
    | false =>
      refine ⟨l.take 12, [], ⟨by rw [List.length_take]; omega, by decide, sz_take hz _, fun i hi => absurd hi (by simp)⟩, (madeD.calls 300 A c l r w hC hc hr).mono ?_⟩
      rintro e w' ⟨rfl, hb⟩
      have hlt : (l.take 12).length ≤ l.length := by rw [List.length_take]; omega
      have h12 : l.take 12 = l.take (l.take 12).length := by
        rw [List.length_take]
        rcases Nat.le_total 12 l.length with h | h
        · rw [Nat.min_eq_left h]
        · rw [Nat.min_eq_right h, List.take_of_length_le (Nat.le_refl _), List.take_of_length_le h]
      have hT := Kd.C_take (m := (l.take 12).length) (Kd.C_below hC hb) hlt
      rw [← h12] at hT
      exact ⟨A, c, none, 0, rfl, hT, by omega, nil_C _, Nat.le_refl _, hb⟩
/-- The law's own function, for whatever entries come. -/
theorem law_calls (A : Option Addr) (c : Nat) (l : List S43) (kids order : Bool) (w : World) (hC : Kd.C k43 w A l.length l) (hc : l.length ≤ c) (hz : ∀ i, i < l.length → szE (rd_T43 l (i : Int))) :
    Calls Try.prog 3 #[.slice A l.length c, .bool kids, .bool order] w fun e w' => e = .returned (.bool true) ∧ Below w.heap.size w w' := by
  obtain ⟨es, ks, hs, hM⟩ := made_k l A c kids order w hC hc hz
  exact lodestonelaw17_NodePuts.calls 2000 A c l kids order es ks true w hM (law_k es ks hs 2000 (by decide)) rfl
end Go.Proofs.Ytcdnmpajobhdcaa.Pure
