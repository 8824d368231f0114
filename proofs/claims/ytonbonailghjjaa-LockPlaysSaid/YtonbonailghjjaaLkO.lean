/- A table, and who holds what in a matrix: the plain law. -/
import Derived.Test.YtonbonailghjjaaLkN
namespace Go.Proofs.Ytonbonailghjjaa.Lk
open Go.RowKit Go.Proofs.YtonbonailghjjaaW.PrintWords Go.Proofs.YtonbonailghjjaaW.PrintLast Go.Proofs.YtonbonailghjjaaW.PrintMore Go.Proofs.Ytonbonailghjjaa.XB Go.Proofs.Ytonbonailghjjaa.PLockMost
set_option linter.unusedVariables false
set_option linter.unusedSimpArgs false
variable {nm : Nat → ByteArray} {l : List S51} {m : Nat → Nat → Int}
theorem nodup_inj {α β : Type} (f : α → β) : ∀ {l : List α}, (l.map f).Nodup → ∀ a ∈ l, ∀ b ∈ l, f a = f b → a = b
  | [], _, a, ha, _, _, _ => by cases ha
  | x :: r, h, a, ha, b, hb, e => by
    rw [List.map_cons, List.nodup_cons] at h
    rcases List.mem_cons.mp ha with ea | ha2
    · rcases List.mem_cons.mp hb with eb | hb2
      · rw [ea, eb]
      · have h2 := List.mem_map_of_mem (f := f) hb2
        rw [← e, ea] at h2
        exact absurd h2 h.1
    · rcases List.mem_cons.mp hb with eb | hb2
      · have h2 := List.mem_map_of_mem (f := f) ha2
        rw [e, eb] at h2
        exact absurd h2 h.1
      · exact nodup_inj f h.2 a ha2 b hb2 e
theorem rd_mem {l : List S51} {j : Nat} (hj : j < l.length) : rd_T51 l (j : Int) ∈ l := by
  have e : rd_T51 l (j : Int) = l[j] := by simp [rd_T51, List.getD_eq_getElem?_getD, List.getElem?_eq_getElem hj]
  rw [e]; exact List.getElem_mem hj
theorem rd_get {l : List S51} {j : Nat} (hj : j < l.length) : rd_T51 l (j : Int) = l[j] := by simp [rd_T51, List.getD_eq_getElem?_getD, List.getElem?_eq_getElem hj]
theorem mem_holders (m : Nat → Nat → Int) (k n : Nat) (a : Int) : a ∈ holders m k n ↔ ∃ x : Nat, x < n ∧ (x : Int) = a ∧ m x k ≠ 0 := by
  unfold holders
  rw [List.mem_map]
  constructor
  · rintro ⟨x, hx, rfl⟩
    rw [List.mem_filter, List.mem_range] at hx
    exact ⟨x, hx.1, rfl, bne_iff_ne.mp hx.2⟩
  · rintro ⟨x, h1, rfl, h2⟩
    exact ⟨x, List.mem_filter.mpr ⟨List.mem_range.mpr h1, bne_iff_ne.mpr h2⟩, rfl⟩
theorem holders_rise (m : Nat → Nat → Int) (k n : Nat) : (holders m k n).Pairwise (· < ·) := by
  unfold holders
  rw [List.pairwise_map]
  exact (List.Pairwise.filter _ List.pairwise_lt_range).imp (fun h => by omega)
theorem rise_eq {a b : List Int} (ha : a.Pairwise (· < ·)) (hb : b.Pairwise (· < ·)) (h : ∀ x, x ∈ a ↔ x ∈ b) : a = b := by
  have na : a.Nodup := ha.imp (fun h => by omega)
  have nb : b.Nodup := hb.imp (fun h => by omega)
  exact ((List.perm_ext_iff_of_nodup na nb).mpr h).eq_of_pairwise (fun x y _ _ h1 h2 => by omega) ha hb
theorem any2_iff (m : Nat → Nat → Int) (k n : Nat) : any2 m k n = true ↔ ∃ x, x < n ∧ m x k = 2 := by
  unfold any2
  rw [List.any_eq_true]
  constructor
  · rintro ⟨x, h1, h2⟩
    exact ⟨x, List.mem_range.mp h1, eq_of_beq h2⟩
  · rintro ⟨x, h1, h2⟩
    exact ⟨x, List.mem_range.mpr h1, by rw [h2]; rfl⟩
/-- the six names -/
structure Names (nm : Nat → ByteArray) : Prop where
  inj : ∀ a b, a < 6 → b < 6 → (nm a).toList = (nm b).toList → a = b
  ne : ∀ k, k < 6 → (nm k).toList ≠ []
/-- a table that is what a matrix says, in whatever order -/
structure Inv (nm : Nat → ByteArray) (l : List S51) (m : Nat → Nat → Int) : Prop where
  keys : (l.map (fun x => x.f0.toList)).Nodup
  ent : ∀ x ∈ l, ∃ k, k < 6 ∧ x.f0.toList = (nm k).toList ∧ x.f1 = holders m k 16 ∧ x.f1 ≠ [] ∧ x.f2 = howI (any2 m k 16)
  all : ∀ k, k < 6 → holders m k 16 ≠ [] → ∃ x ∈ l, x.f0.toList = (nm k).toList
  val : ∀ i k, i < 16 → k < 6 → m i k = 0 ∨ m i k = 1 ∨ m i k = 2
  one : ∀ k, k < 6 → any2 m k 16 = true → (holders m k 16).length ≤ 1
theorem any2_hold {k : Nat} (h : any2 m k 16 = true) : holders m k 16 ≠ [] := by
  obtain ⟨x, hx, h2⟩ := (any2_iff m k 16).mp h
  intro e
  have : (x : Int) ∈ holders m k 16 := (mem_holders m k 16 x).mpr ⟨x, hx, rfl, by omega⟩
  rw [e] at this
  cases this
theorem Inv.hh (h : Inv nm l m) : ∀ x ∈ l, x.f2 = 0 ∨ x.f2 = 1 := by
  intro x hx
  obtain ⟨k, _, _, _, _, e⟩ := h.ent x hx
  rw [e]
  cases any2 m k 16
  · exact .inl rfl
  · exact .inr rfl
/-- how a thing stands in the table -/
theorem Inv.find (hn : Names nm) (h : Inv nm l m) (k : Nat) (hk : k < 6) : (idx (nm k) l = -1 ∧ holders m k 16 = [] ∧ ∀ x ∈ l, x.f0.toList ≠ (nm k).toList) ∨
    ∃ j : Nat, idx (nm k) l = (j : Int) ∧ j < l.length ∧ (rd_T51 l (j : Int)).f0.toList = (nm k).toList ∧ (rd_T51 l (j : Int)).f1 = holders m k 16 ∧ holders m k 16 ≠ [] ∧ (rd_T51 l (j : Int)).f2 = howI (any2 m k 16) := by
  rcases idx_cases (nm k) l with ⟨h1, h2⟩ | ⟨j, h1, h2, h3, _⟩
  · have h3 : ∀ x ∈ l, x.f0.toList ≠ (nm k).toList := by
      intro x hx e
      obtain ⟨q, hq, rfl⟩ := List.getElem_of_mem hx
      have := h2 q hq
      rw [rd_get hq] at this
      unfold isB at this
      rw [e, beq_self_eq_true] at this
      cases this
    refine .inl ⟨h1, ?_, h3⟩
    refine Classical.byContradiction fun hne => ?_
    obtain ⟨x, hx, e⟩ := h.all k hk hne
    exact h3 x hx e
  · have h4 : (rd_T51 l (j : Int)).f0.toList = (nm k).toList := eq_of_beq h3
    obtain ⟨k', hk', e1, e2, e3, e4⟩ := h.ent _ (rd_mem h2)
    have hkk : k' = k := hn.inj k' k hk' hk (e1.symm.trans h4)
    subst hkk
    exact .inr ⟨j, h1, h2, h4, e2, e2 ▸ e3, e4⟩
theorem count_keys (hn : Names nm) (h : Inv nm l m) (P : S51 → Bool) (Q : Nat → Bool) (hPQ : ∀ x ∈ l, ∀ k, k < 6 → x.f0.toList = (nm k).toList → P x = Q k) (hQ : ∀ k, k < 6 → Q k = true → ∃ x ∈ l, x.f0.toList = (nm k).toList) :
    (l.filter P).length = ((List.range 6).filter Q).length := by
  have e1 : ((l.filter P).map (fun x => x.f0.toList)).Nodup := (List.filter_sublist.map _).nodup h.keys
  have e2 : (((List.range 6).filter Q).map (fun k => (nm k).toList)).Nodup := by
    rw [List.Nodup, List.pairwise_map]
    refine List.Pairwise.imp_of_mem ?_ (List.Pairwise.filter _ List.nodup_range)
    intro a b ha hb hne e
    exact hne (hn.inj a b (List.mem_range.mp (List.mem_filter.mp ha).1) (List.mem_range.mp (List.mem_filter.mp hb).1) e)
  have e3 := ((List.perm_ext_iff_of_nodup e1 e2).mpr (fun a => by
    rw [List.mem_map, List.mem_map]
    constructor
    · rintro ⟨x, hx, rfl⟩
      rw [List.mem_filter] at hx
      obtain ⟨k, hk, e, _⟩ := h.ent x hx.1
      exact ⟨k, List.mem_filter.mpr ⟨List.mem_range.mpr hk, (hPQ x hx.1 k hk e) ▸ hx.2⟩, e.symm⟩
    · rintro ⟨k, hk, rfl⟩
      rw [List.mem_filter, List.mem_range] at hk
      obtain ⟨x, hx, e⟩ := hQ k hk.1 hk.2
      exact ⟨x, List.mem_filter.mpr ⟨hx, (hPQ x hx k hk.1 e).symm ▸ hk.2⟩, e⟩)).length_eq
  rw [List.length_map, List.length_map] at e3
  exact e3
theorem Inv.fits (hn : Names nm) (h : Inv nm l m) : Fits l m nm := by
  refine ⟨fun k hk => ?_, fun k hk => ?_, h.one, fun i hi => ?_, ?_⟩
  · unfold whoL
    rcases h.find hn k hk with ⟨e, h0, _⟩ | ⟨j, e, _, _, h1, _, _⟩
    · rw [if_pos e, h0]
    · rw [if_neg (by omega), e, h1]
  · unfold aloneL
    rcases h.find hn k hk with ⟨e, h0, _⟩ | ⟨j, e, _, _, _, _, h1⟩
    · rw [if_pos e]
      cases ha : any2 m k 16 with
      | false => rfl
      | true => exact absurd h0 (any2_hold ha)
    · rw [if_neg (by omega), e, h1]
      cases any2 m k 16 <;> rfl
  · unfold held cnt
    refine count_keys hn h _ _ (fun x hx k hk e => ?_) (fun k hk e => ?_)
    · obtain ⟨k', hk', e1, e2, _⟩ := h.ent x hx
      obtain rfl : k' = k := hn.inj k' k hk' hk (e1.symm.trans e)
      rw [e2]
      unfold cont
      refine decide_eq_decide.mpr ?_
      rw [mem_holders]
      constructor
      · rintro ⟨y, hy, e3, e4⟩
        have : y = i := by omega
        subst this
        rcases h.val y k' hi hk with h0 | h0 | h0 <;> omega
      · intro h0
        exact ⟨i, hi, rfl, by omega⟩
    · refine h.all k hk fun h0 => ?_
      have : (i : Int) ∈ holders m k 16 := (mem_holders m k 16 i).mpr ⟨i, hi, rfl, by have := of_decide_eq_true e; omega⟩
      rw [h0] at this
      cases this
  · have e : l.filter (fun _ => true) = l := List.filter_eq_self.mpr (fun _ _ => rfl)
    unfold things
    rw [← e]
    refine count_keys hn h _ _ (fun x hx k hk e => ?_) (fun k hk e => ?_)
    · obtain ⟨k', hk', e1, e2, e3, _⟩ := h.ent x hx
      obtain rfl : k' = k := hn.inj k' k hk' hk (e1.symm.trans e)
      rw [e2] at e3
      cases hh : holders m k' 16 with
      | nil => exact absurd hh e3
      | cons _ _ => rfl
    · refine h.all k hk fun h0 => ?_
      rw [h0] at e
      cases e
/-- whom the document holds against one -/
def wantM (m : Nat → Nat → Int) (i : Int) (k : Nat) (al : Bool) (n : Nat) : List Int := if al || any2 m k 16 then but i (holders m k n) else []
theorem Inv.agn (hn : Names nm) (h : Inv nm l m) (i : Int) (k : Nat) (hk : k < 6) (al : Bool) : agn l i (nm k) al = wantM m i k al 16 := by
  unfold Lk.agn wantM
  rcases h.find hn k hk with ⟨e, h0, _⟩ | ⟨j, e, _, _, h1, _, h2⟩
  · rw [if_pos e, h0]
    split <;> rfl
  · rw [if_neg (by omega), e, h1, h2]
    cases any2 m k 16 <;> cases al <;> rfl
def zeroTo (m : Nat → Nat → Int) (i j : Nat) : Nat → Nat → Int := fun a b => if a = i ∧ b < j then 0 else m a b
theorem zero_holders (m : Nat → Nat → Int) (i k : Nat) (hk : k < 6) : holders (zeroTo m i 6) k 16 = but (i : Int) (holders m k 16) := by
  refine rise_eq (holders_rise _ _ _) (List.Pairwise.filter _ (holders_rise _ _ _)) fun a => ?_
  unfold but
  rw [List.mem_filter, mem_holders, mem_holders]
  constructor
  · rintro ⟨x, hx, rfl, h⟩
    unfold zeroTo at h
    by_cases c : x = i
    · rw [if_pos ⟨c, hk⟩] at h; exact absurd rfl h
    · rw [if_neg (fun h => c h.1)] at h
      refine ⟨⟨x, hx, rfl, h⟩, ?_⟩
      rw [beq_eq_false_iff_ne.mpr (show (x : Int) ≠ i by omega)]; rfl
  · rintro ⟨⟨x, hx, rfl, h⟩, h2⟩
    have c : x ≠ i := by
      intro e
      rw [e, beq_self_eq_true] at h2
      cases h2
    exact ⟨x, hx, rfl, by unfold zeroTo; rw [if_neg (fun h => c h.1)]; exact h⟩
theorem but_nil_one {i : Int} {xs : List Int} (hr : xs.Pairwise (· < ·)) (h : but i xs = []) : xs = [] ∨ xs = [i] := by
  have h1 : ∀ x ∈ xs, x = i := by
    intro x hx
    have h2 := List.filter_eq_nil_iff.mp h x hx
    cases c : (x == i) with
    | true => exact eq_of_beq c
    | false => rw [c] at h2; exact absurd rfl h2
  cases xs with
  | nil => exact .inl rfl
  | cons a r =>
    cases r with
    | nil => exact .inr (by rw [h1 a List.mem_cons_self])
    | cons b r =>
      have e1 := h1 a List.mem_cons_self
      have e2 := h1 b (List.mem_cons_of_mem _ List.mem_cons_self)
      have := (List.pairwise_cons.mp hr).1 b List.mem_cons_self
      omega
theorem Inv.free (hn : Names nm) (h : Inv nm l m) (i : Nat) (hi : i < 16) : Inv nm (freed (i : Int) l) (zeroTo m i 6) := by
  have hz2 : ∀ k, k < 6 → any2 (zeroTo m i 6) k 16 = true → any2 m k 16 = true := by
    intro k hk ha
    obtain ⟨x, hx, e⟩ := (any2_iff _ _ _).mp ha
    refine (any2_iff _ _ _).mpr ⟨x, hx, ?_⟩
    unfold zeroTo at e
    split at e
    · omega
    · exact e
  refine ⟨?_, ?_, ?_, ?_, ?_⟩
  · unfold freed
    have e : (l.map (fun x => (⟨x.f0, but (i : Int) x.f1, x.f2⟩ : S51))).map (fun x => x.f0.toList) = l.map (fun x => x.f0.toList) := by rw [List.map_map]; rfl
    refine (List.filter_sublist.map _).nodup ?_
    rw [e]
    exact h.keys
  · intro y hy
    unfold freed at hy
    rw [List.mem_filter, List.mem_map] at hy
    obtain ⟨⟨x, hx, rfl⟩, hy⟩ := hy
    obtain ⟨k, hk, e1, e2, e3, e4⟩ := h.ent x hx
    have hne : but (i : Int) x.f1 ≠ [] := by
      intro e
      have : (but (i : Int) x.f1).isEmpty = true := by rw [e]; rfl
      rw [show (⟨x.f0, but (i : Int) x.f1, x.f2⟩ : S51).f1 = but (i : Int) x.f1 from rfl, this] at hy
      cases hy
    refine ⟨k, hk, e1, by rw [zero_holders m i k hk, ← e2], hne, ?_⟩
    show x.f2 = _
    rw [e4]
    congr 1
    cases ha : any2 m k 16 with
    | false =>
      cases hb : any2 (zeroTo m i 6) k 16 with
      | false => rfl
      | true => rw [hz2 k hk hb] at ha; cases ha
    | true =>
      symm
      obtain ⟨x2, hx2, e5⟩ := (any2_iff _ _ _).mp ha
      have h1 := h.one k hk ha
      have hm : (x2 : Int) ∈ holders m k 16 := (mem_holders _ _ _ _).mpr ⟨x2, hx2, rfl, by omega⟩
      rw [e2] at hne
      refine (any2_iff _ _ _).mpr ⟨x2, hx2, ?_⟩
      unfold zeroTo
      rw [if_neg ?_]
      · exact e5
      · rintro ⟨rfl, _⟩
        cases hh : holders m k 16 with
        | nil => rw [hh] at hm; cases hm
        | cons a r =>
          rw [hh] at h1 hm hne
          cases r with
          | nil =>
            rw [List.mem_singleton] at hm
            subst hm
            exact hne (by unfold but; rw [List.filter_cons_of_neg (by simp)]; rfl)
          | cons b r => simp at h1
  · intro k hk hne
    rw [zero_holders m i k hk] at hne
    have h1 : holders m k 16 ≠ [] := fun e => hne (by rw [e]; rfl)
    obtain ⟨x, hx, e⟩ := h.all k hk h1
    obtain ⟨k', hk', e1, e2, _⟩ := h.ent x hx
    obtain rfl : k' = k := hn.inj k' k hk' hk (e1.symm.trans e)
    refine ⟨⟨x.f0, but (i : Int) x.f1, x.f2⟩, ?_, e⟩
    unfold freed
    rw [List.mem_filter, List.mem_map]
    refine ⟨⟨x, hx, rfl⟩, ?_⟩
    show (!(but (i : Int) x.f1).isEmpty) = true
    rw [e2]
    cases hh : but (i : Int) (holders m k' 16) with
    | nil => exact absurd hh hne
    | cons _ _ => rfl
  · intro a k ha hk
    unfold zeroTo
    split
    · exact .inl rfl
    · exact h.val a k ha hk
  · intro k hk ha
    rw [zero_holders m i k hk]
    exact Nat.le_trans (but_le _ _) (h.one k hk (hz2 k hk ha))
theorem Inv.free0 (hn : Names nm) (h : Inv nm l m) (i : Nat) (hi : i < 16) (h0 : held l (i : Int) = 0) : Inv nm l (zeroTo m i 6) := by
  have hc := (h.fits hn).hel i hi
  rw [h0] at hc
  have hz : ∀ k, k < 6 → m i k = 0 := by
    intro k hk
    rcases h.val i k hi hk with e | e
    · exact e
    · have : k ∈ (List.range 6).filter (fun k => decide (0 < m i k)) := List.mem_filter.mpr ⟨List.mem_range.mpr hk, decide_eq_true (by omega)⟩
      have h2 := List.length_pos_of_mem this
      unfold cnt at hc
      omega
  have e : zeroTo m i 6 = m := by
    funext a b
    unfold zeroTo
    split
    · rename_i c
      rw [c.1, hz b c.2]
    · rfl
  rw [e]; exact h
def setM (m : Nat → Nat → Int) (i k : Nat) (v : Int) : Nat → Nat → Int := fun a b => if a = i ∧ b = k then v else m a b
/-- how one holds a thing behind a taking -/
def upd (m : Nat → Nat → Int) (i k : Nat) (al : Bool) : Int := if al then 2 else max (m i k) 1
theorem set_other (m : Nat → Nat → Int) (i k : Nat) (v : Int) (k' : Nat) (h : k' ≠ k) (n : Nat) : holders (setM m i k v) k' n = holders m k' n ∧ any2 (setM m i k v) k' n = any2 m k' n := by
  have e : ∀ x, setM m i k v x k' = m x k' := fun x => by unfold setM; rw [if_neg (fun c => h c.2)]
  unfold holders any2
  constructor
  · congr 2
    funext x
    rw [e]
  · congr 1
    funext x
    rw [e]
theorem joined_mem (ws : List Int) (who : Int) (hr : ws.Pairwise (· < ·)) : (joined ws who).Pairwise (· < ·) ∧ ∀ x, x ∈ joined ws who ↔ x = who ∨ x ∈ ws := by
  unfold joined
  by_cases c : who ∈ ws
  · rw [show cont ws who = true from decide_eq_true c, if_pos rfl]
    exact ⟨hr, fun x => ⟨.inr, fun h => h.elim (fun e => e ▸ c) id⟩⟩
  · rw [show cont ws who = false from decide_eq_false c, if_neg (by decide)]
    exact insL_rises ws who hr c
theorem set_holders (m : Nat → Nat → Int) (i k : Nat) (hi : i < 16) (v : Int) (hv : v ≠ 0) : holders (setM m i k v) k 16 = joined (holders m k 16) (i : Int) := by
  obtain ⟨h1, h2⟩ := joined_mem (holders m k 16) (i : Int) (holders_rise _ _ _)
  refine rise_eq (holders_rise _ _ _) h1 fun a => ?_
  rw [h2, mem_holders, mem_holders]
  constructor
  · rintro ⟨x, hx, rfl, h⟩
    unfold setM at h
    by_cases c : x = i
    · exact .inl (by omega)
    · rw [if_neg (fun h => c h.1)] at h
      exact .inr ⟨x, hx, rfl, h⟩
  · rintro (rfl | ⟨x, hx, rfl, h⟩)
    · exact ⟨i, hi, rfl, by unfold setM; rw [if_pos ⟨rfl, rfl⟩]; exact hv⟩
    · refine ⟨x, hx, rfl, ?_⟩
      unfold setM
      split
      · exact hv
      · exact h
theorem upd_val (m : Nat → Nat → Int) (i k : Nat) (al : Bool) (h : m i k = 0 ∨ m i k = 1 ∨ m i k = 2) : upd m i k al = 1 ∨ upd m i k al = 2 := by
  unfold upd
  cases al with
  | true => exact .inr rfl
  | false =>
    show max (m i k) 1 = 1 ∨ max (m i k) 1 = 2
    omega
theorem set_any2 (m : Nat → Nat → Int) (i k : Nat) (hi : i < 16) (al : Bool) (h : m i k = 0 ∨ m i k = 1 ∨ m i k = 2) : any2 (setM m i k (upd m i k al)) k 16 = (any2 m k 16 || al) := by
  rw [Bool.eq_iff_iff, Bool.or_eq_true, any2_iff, any2_iff]
  constructor
  · rintro ⟨x, hx, e⟩
    unfold setM at e
    by_cases c : x = i
    · rw [if_pos ⟨c, rfl⟩] at e
      cases al with
      | true => exact .inr rfl
      | false =>
        refine .inl ⟨x, hx, ?_⟩
        have e2 : max (m i k) 1 = 2 := e
        rw [c]
        omega
    · rw [if_neg (fun h => c h.1)] at e
      exact .inl ⟨x, hx, e⟩
  · rintro (⟨x, hx, e⟩ | e)
    · refine ⟨x, hx, ?_⟩
      unfold setM
      by_cases c : x = i
      · rw [if_pos ⟨c, rfl⟩]
        unfold upd
        cases al with
        | true => rfl
        | false =>
          show max (m i k) 1 = 2
          rw [c] at e
          omega
      · rw [if_neg (fun h => c h.1)]
        exact e
    · refine ⟨i, hi, ?_⟩
      unfold setM
      rw [if_pos ⟨rfl, rfl⟩, e]
      rfl
/-- what holds behind a taking, of the matrix -/
theorem set_facts (h : Inv nm l m) (i k : Nat) (hi : i < 16) (hk : k < 6) (al : Bool) (hw : wantM m (i : Int) k al 16 = []) :
    (∀ a b, a < 16 → b < 6 → setM m i k (upd m i k al) a b = 0 ∨ setM m i k (upd m i k al) a b = 1 ∨ setM m i k (upd m i k al) a b = 2) ∧
    (∀ b, b < 6 → any2 (setM m i k (upd m i k al)) b 16 = true → (holders (setM m i k (upd m i k al)) b 16).length ≤ 1) := by
  have hv := upd_val m i k al (h.val i k hi hk)
  constructor
  · intro a b ha hb
    unfold setM
    split
    · exact .inr hv
    · exact h.val a b ha hb
  · intro b hb ha
    by_cases c : b = k
    · subst c
      rw [set_any2 m i b hi al (h.val i b hi hb)] at ha
      rw [set_holders m i b hi _ (by omega)]
      unfold wantM at hw
      rw [Bool.or_comm] at ha
      rw [ha, if_pos rfl] at hw
      rcases but_nil_one (holders_rise _ _ _) hw with e | e
      · rw [e]
        exact Nat.le_refl 1
      · rw [e]
        unfold joined
        rw [show cont [(i : Int)] (i : Int) = true from by simp [cont], if_pos rfl]
        exact Nat.le_refl 1
    · rw [(set_other m i k _ b c 16).2] at ha
      rw [(set_other m i k _ b c 16).1]
      exact h.one b hb ha
theorem Inv.new (hn : Names nm) (h : Inv nm l m) (i k : Nat) (hi : i < 16) (hk : k < 6) (al : Bool) (hx : idx (nm k) l = -1) : Inv nm (l ++ [⟨nm k, [(i : Int)], howI al⟩]) (setM m i k (upd m i k al)) := by
  rcases h.find hn k hk with ⟨_, h0, hno⟩ | ⟨j, e, _⟩
  · have hw : wantM m (i : Int) k al 16 = [] := by
      unfold wantM
      rw [h0]
      split <;> rfl
    obtain ⟨s1, s2⟩ := set_facts h i k hi hk al hw
    have hv := upd_val m i k al (h.val i k hi hk)
    have hh : holders (setM m i k (upd m i k al)) k 16 = [(i : Int)] := by
      rw [set_holders m i k hi _ (by omega), h0]; rfl
    have ha : any2 (setM m i k (upd m i k al)) k 16 = al := by
      rw [set_any2 m i k hi al (h.val i k hi hk)]
      cases ha : any2 m k 16 with
      | false => rfl
      | true => exact absurd h0 (any2_hold ha)
    refine ⟨?_, ?_, ?_, s1, s2⟩
    · rw [List.map_append, List.map_cons, List.map_nil, List.nodup_append]
      refine ⟨h.keys, by simp, ?_⟩
      intro a ha b hb e
      rw [List.mem_singleton] at hb
      obtain ⟨x, hx, rfl⟩ := List.mem_map.mp ha
      exact hno x hx (e.trans hb)
    · intro x hx
      rcases List.mem_append.mp hx with hx | hx
      · obtain ⟨k', hk', e1, e2, e3, e4⟩ := h.ent x hx
        have c : k' ≠ k := fun e => hno x hx (e ▸ e1)
        refine ⟨k', hk', e1, ?_, e3, ?_⟩
        · rw [(set_other m i k _ k' c 16).1]; exact e2
        · rw [(set_other m i k _ k' c 16).2]; exact e4
      · rw [List.mem_singleton] at hx
        subst hx
        exact ⟨k, hk, rfl, hh.symm, by simp, by rw [ha]⟩
    · intro k' hk' hne
      by_cases c : k' = k
      · subst c
        exact ⟨_, List.mem_append_right _ List.mem_cons_self, rfl⟩
      · rw [(set_other m i k _ k' c 16).1] at hne
        obtain ⟨x, hx, e⟩ := h.all k' hk' hne
        exact ⟨x, List.mem_append_left _ hx, e⟩
  · omega
theorem Inv.any (hn : Names nm) (h : Inv nm l m) (i k : Nat) (hi : i < 16) (hk : k < 6) (al : Bool) (j : Nat) (hx : idx (nm k) l = (j : Int)) (hw : wantM m (i : Int) k al 16 = []) :
    Inv nm (l.set j ⟨(rd_T51 l (j : Int)).f0, joined (rd_T51 l (j : Int)).f1 (i : Int), max (rd_T51 l (j : Int)).f2 (howI al)⟩) (setM m i k (upd m i k al)) := by
  rcases h.find hn k hk with ⟨e, _⟩ | ⟨j', e, hj, f0, f1, fne, f2⟩
  · omega
  · obtain rfl : j' = j := by omega
    obtain ⟨s1, s2⟩ := set_facts h i k hi hk al hw
    have hv := upd_val m i k al (h.val i k hi hk)
    have hh : holders (setM m i k (upd m i k al)) k 16 = joined (holders m k 16) (i : Int) := set_holders m i k hi _ (by omega)
    have ha := set_any2 m i k hi al (h.val i k hi hk)
    have hkeys : (l.set j' ⟨(rd_T51 l (j' : Int)).f0, joined (rd_T51 l (j' : Int)).f1 (i : Int), max (rd_T51 l (j' : Int)).f2 (howI al)⟩).map (fun x => x.f0.toList) = l.map (fun x => x.f0.toList) := by
      rw [List.map_set]
      refine List.ext_getElem (by simp) fun q h1 h2 => ?_
      rw [List.getElem_set]
      split
      · rename_i c
        subst c
        rw [List.getElem_map, rd_get hj]
      · rfl
    refine ⟨by rw [hkeys]; exact h.keys, ?_, ?_, s1, s2⟩
    · intro x hx
      obtain ⟨q, hq, rfl⟩ := List.getElem_of_mem hx
      have hql : q < l.length := by rw [List.length_set] at hq; exact hq
      rw [List.getElem_set]
      split
      · refine ⟨k, hk, f0, by rw [hh, f1], ?_, ?_⟩
        · show joined (rd_T51 l (j' : Int)).f1 (i : Int) ≠ []
          intro e0
          have := ((joined_mem _ (i : Int) (f1 ▸ holders_rise m k 16)).2 (i : Int)).mpr (.inl rfl)
          rw [e0] at this
          cases this
        · show max (rd_T51 l (j' : Int)).f2 (howI al) = _
          rw [ha, f2]
          cases any2 m k 16 <;> cases al <;> rfl
      · rename_i c
        obtain ⟨k', hk', e1, e2, e3, e4⟩ := h.ent l[q] (List.getElem_mem hql)
        have c2 : k' ≠ k := by
          rintro rfl
          have := nodup_inj (fun x : S51 => x.f0.toList) h.keys l[q] (List.getElem_mem hql) l[j'] (List.getElem_mem hj) (e1.trans (by rw [← rd_get hj]; exact f0.symm))
          have hnd : l.Nodup := List.Pairwise.of_map (fun x : S51 => x.f0.toList) (fun a b hab e => hab (e ▸ rfl)) h.keys
          exact c ((List.getElem_inj hnd).mp this).symm
        refine ⟨k', hk', e1, ?_, e3, ?_⟩
        · rw [(set_other m i k _ k' c2 16).1]; exact e2
        · rw [(set_other m i k _ k' c2 16).2]; exact e4
    · intro k' hk' hne
      have hm : ∀ x ∈ l, ∃ y ∈ l.set j' ⟨(rd_T51 l (j' : Int)).f0, joined (rd_T51 l (j' : Int)).f1 (i : Int), max (rd_T51 l (j' : Int)).f2 (howI al)⟩, y.f0.toList = x.f0.toList := by
        intro x hx
        have : x.f0.toList ∈ (l.set j' ⟨(rd_T51 l (j' : Int)).f0, joined (rd_T51 l (j' : Int)).f1 (i : Int), max (rd_T51 l (j' : Int)).f2 (howI al)⟩).map (fun x => x.f0.toList) := by
          rw [hkeys]; exact List.mem_map_of_mem (f := fun x : S51 => x.f0.toList) hx
        obtain ⟨y, hy, e⟩ := List.mem_map.mp this
        exact ⟨y, hy, e⟩
      have hold : ∃ x ∈ l, x.f0.toList = (nm k').toList := by
        by_cases c : k' = k
        · subst c; exact h.all k' hk' fne
        · rw [(set_other m i k _ k' c 16).1] at hne
          exact h.all k' hk' hne
      obtain ⟨x, hx, e⟩ := hold
      obtain ⟨y, hy, e2⟩ := hm x hx
      exact ⟨y, hy, e2.trans e⟩
/-- nothing is held -/
theorem Inv.nil (nm : Nat → ByteArray) : Inv nm [] (fun _ _ => 0) := by
  have hh : ∀ k, holders (fun _ _ => 0) k 16 = [] := by intro k; rfl
  have ha : ∀ k, any2 (fun _ _ => 0) k 16 = false := by intro k; rfl
  exact ⟨by simp, fun x hx => (by cases hx), fun k _ hne => absurd (hh k) hne, fun _ _ _ _ => .inl rfl, fun k _ h => by rw [ha k] at h; cases h⟩
end Go.Proofs.Ytonbonailghjjaa.Lk
