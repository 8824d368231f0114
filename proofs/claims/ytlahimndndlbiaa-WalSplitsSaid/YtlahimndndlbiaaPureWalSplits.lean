/- The plain law of WalSplits: what a record's blocks hold is the document's, and records behind one another come back. -/
import Derived.Test.YtlahimndndlbiaaPWalSplitsx9
import Derived.Test.YtlahimndndlbiaaQWalSplits
namespace Go.Proofs.Ytlahimndndlbiaa.PureSplits
open Go.RowKit Go.Proofs.Ytlahimndndlbiaa.PWalSplits Go.Proofs.YtlahimndndlbiaaW.PrintWords Go.Proofs.YtlahimndndlbiaaW.PrintLast Go.Proofs.YtlahimndndlbiaaW.PrintMore Go.Proofs.Ytlahimndndlbiaa.XB Go.Proofs.Ytlahimndndlbiaa.RWalSplits Go.Proofs.Ytlahimndndlbiaa.QWalSplits
set_option linter.unusedVariables false
set_option linter.unusedSimpArgs false
theorem awake_60 : l15_awake.f 60 = some true := by decide +kernel
theorem awake_k : ∀ d, l15_awake.f (60 + d) = some true
  | 0 => awake_60
  | d + 1 => l15_awake.mono (60 + d) true (awake_k d)
/-- the blocks of a record's bytes -/
def blks : Nat → ByteArray → List ByteArray
  | 0, s => [(⟨#[1]⟩ : ByteArray) ++ s]
  | d + 1, s => if 461 < s.size then ((⟨#[0]⟩ : ByteArray) ++ s.extract 0 461) :: blks d (s.extract 461 s.size) else [(⟨#[1]⟩ : ByteArray) ++ s]
theorem sz0 : (⟨#[0]⟩ : ByteArray).size = 1 := rfl
theorem sz1 : (⟨#[1]⟩ : ByteArray).size = 1 := rfl
theorem blks_len : ∀ (d : Nat) (s : ByteArray), s.size ≤ 461 * d + 461 → (blks d s).length = max ((s.size + 460) / 461) 1
  | 0, s, h => by
    show 1 = _
    omega
  | d + 1, s, h => by
    unfold blks
    by_cases c : 461 < s.size
    · have e2 : (s.extract 461 s.size).size = s.size - 461 := by rw [ByteArray.size_extract]; omega
      rw [if_pos c, List.length_cons, blks_len d _ (by omega), e2]
      omega
    · rw [if_neg c]
      show 1 = _
      omega
theorem blks_small : ∀ (d : Nat) (s : ByteArray), s.size ≤ 461 * d + 461 → ∀ b ∈ blks d s, b.size ≤ 462
  | 0, s, h, b, hb => by
    rcases List.mem_singleton.mp hb with rfl
    rw [ByteArray.size_append, sz1]; omega
  | d + 1, s, h, b, hb => by
    unfold blks at hb
    by_cases c : 461 < s.size
    · have e2 : (s.extract 461 s.size).size = s.size - 461 := by rw [ByteArray.size_extract]; omega
      rw [if_pos c] at hb
      rcases List.mem_cons.mp hb with rfl | hb
      · rw [ByteArray.size_append, sz0, ByteArray.size_extract]; omega
      · exact blks_small d _ (by omega) b hb
    · rw [if_neg c] at hb
      rcases List.mem_singleton.mp hb with rfl
      rw [ByteArray.size_append, sz1]; omega
theorem split_eq : ∀ (d k : Nat) (s : ByteArray) (out : List ByteArray), s.size ≤ 461 * d + 461 → d + 1 ≤ k → out.length + d ≤ 1000 → wal_Split.l0 k s out = some (out ++ blks d s) := by
  intro d
  induction d with
  | zero =>
    intro k s out hs hk ho
    obtain ⟨k, rfl⟩ : ∃ m, k = m + 1 := ⟨k - 1, by omega⟩
    rw [wal_Split.l0, if_neg (by omega), if_pos (by omega), if_pos (by omega)]
    rfl
  | succ d ih =>
    intro k s out hs hk ho
    obtain ⟨k, rfl⟩ : ∃ m, k = m + 1 := ⟨k - 1, by omega⟩
    unfold blks
    by_cases c : 461 < s.size
    · have e1 : (s.extract 0 461).size = 461 := by rw [ByteArray.size_extract]; omega
      have e2 : (s.extract 461 s.size).size = s.size - 461 := by rw [ByteArray.size_extract]; omega
      rw [wal_Split.l0, if_pos (by omega), if_pos (by decide), if_pos (by omega), if_pos (by omega), if_pos (by omega), if_pos c, ih k _ _ (by omega) (by omega) (by rw [List.length_append, List.length_singleton]; omega), List.append_assoc]
      rfl
    · rw [wal_Split.l0, if_neg (by omega), if_pos (by omega), if_pos (by omega), if_neg c]
theorem rsplit_eq : ∀ (d k : Nat) (s : ByteArray) (out : List ByteArray), s.size ≤ 461 * d + 461 → d + 1 ≤ k → out.length + d ≤ 1000 → r15_Split.l0 k s out = some (out ++ blks d s) := by
  intro d
  induction d with
  | zero =>
    intro k s out hs hk ho
    obtain ⟨k, rfl⟩ : ∃ m, k = m + 1 := ⟨k - 1, by omega⟩
    rw [r15_Split.l0, if_neg (by omega), if_pos (by omega), if_pos (by omega)]
    rfl
  | succ d ih =>
    intro k s out hs hk ho
    obtain ⟨k, rfl⟩ : ∃ m, k = m + 1 := ⟨k - 1, by omega⟩
    unfold blks
    by_cases c : 461 < s.size
    · have e1 : (s.extract 0 461).size = 461 := by rw [ByteArray.size_extract]; omega
      have e2 : (s.extract 461 s.size).size = s.size - 461 := by rw [ByteArray.size_extract]; omega
      rw [r15_Split.l0, if_pos (by omega), if_pos (by decide), if_pos (by omega), if_pos (by omega), if_pos (by omega), if_pos c, ih k _ _ (by omega) (by omega) (by rw [List.length_append, List.length_singleton]; omega), List.append_assoc]
      rfl
    · rw [r15_Split.l0, if_neg (by omega), if_pos (by omega), if_pos (by omega), if_neg c]
theorem blocks_eq (s : ByteArray) (hs : s.size ≤ 16384) : wal_Blocks.f s = some (((blks 40 s).length : Nat) : Int) := by
  have h1 : wrap64 ((s.size : Int) + 461) = (s.size : Int) + 461 := w64 (by omega) (by omega)
  have h2 : wrap64 ((s.size : Int) + 461 - 1) = (s.size : Int) + 460 := by rw [w64 (by omega) (by omega)]; omega
  have h3 : Int.tdiv ((s.size : Int) + 460) 461 = (((s.size + 460) / 461 : Nat) : Int) := by
    rw [show (s.size : Int) + 460 = ((s.size + 460 : Nat) : Int) by omega]
    exact (Int.ofNat_tdiv _ 461).symm
  have h4 : wrap64 ((((s.size + 460) / 461 : Nat) : Int)) = ((((s.size + 460) / 461 : Nat) : Int)) := w64 (by omega) (by omega)
  unfold wal_Blocks.f
  rw [h1, h2, h3, h4, blks_len 40 s (by omega)]
  unfold mx
  congr 1
  split <;> omega
theorem head_tail (c : UInt8) (t : ByteArray) : (((⟨#[c]⟩ : ByteArray) ++ t).extract 0 1).toList = [c] ∧ ((⟨#[c]⟩ : ByteArray) ++ t).extract 1 ((⟨#[c]⟩ : ByteArray) ++ t).size = t ∧ ((⟨#[c]⟩ : ByteArray) ++ t).size = 1 + t.size := by
  have h0 : (⟨#[c]⟩ : ByteArray).size = 1 := rfl
  have h1 : ((⟨#[c]⟩ : ByteArray) ++ t).extract 0 (⟨#[c]⟩ : ByteArray).size = (⟨#[c]⟩ : ByteArray) := extract_left _ _
  have h2 : ((⟨#[c]⟩ : ByteArray) ++ t).extract (⟨#[c]⟩ : ByteArray).size ((⟨#[c]⟩ : ByteArray) ++ t).size = t := extract_right _ _
  have h3 : ((⟨#[c]⟩ : ByteArray) ++ t).size = 1 + t.size := by rw [ByteArray.size_append, h0]
  refine ⟨?_, h2, h3⟩
  have h4 : ((⟨#[c]⟩ : ByteArray) ++ t).extract 0 1 = (⟨#[c]⟩ : ByteArray) := h1
  rw [h4, toList_data]
theorem rd_at {L : List ByteArray} {i : Nat} {b : ByteArray} {T : List ByteArray} (h : L.drop i = b :: T) : i < L.length ∧ rdOf ByteArray.empty L (i : Int) = b ∧ L.drop (i + 1) = T := by
  have hl : i < L.length := by
    have := congrArg List.length h
    rw [List.length_drop, List.length_cons] at this
    omega
  have h2 := List.drop_eq_getElem_cons hl
  rw [h] at h2
  injection h2 with h3 h4
  exact ⟨hl, by rw [rdOf, Int.toNat_natCast, List.getD_eq_getElem?_getD, List.getElem?_eq_getElem hl, ← h3]; rfl, h4.symm⟩
theorem open_step (L : List ByteArray) (b u acc : ByteArray) (i k : Nat) (out : List (List S33)) (op : Bool) (hL : L.length ≤ 1000) (h1 : i < L.length) (h2 : rdOf ByteArray.empty L (i : Int) = b) (g1 : (b.extract 0 1).toList = [0]) (g2 : b.extract 1 b.size = u) (g3 : b.size = 1 + u.size) (hz : acc.size + u.size ≤ 16384) :
    wal_Join.l0 (k + 2) out acc op L (L.length : Int) (i : Int) = wal_Join.l0 k out (acc ++ u) (([0] : List UInt8) == [0]) L (L.length : Int) ((i + 1 : Nat) : Int) := by
  have hw : wrap64 ((i : Int) + 1) = ((i + 1 : Nat) : Int) := by unfold wrap64; omega
  have hd : decide ((acc.size : Int) > 16384) = false := decide_eq_false (by omega)
  rw [wal_Join.l0, if_pos (by omega), if_pos (by omega), if_pos (by omega), h2, if_neg (by omega), if_pos (by decide), if_pos (by omega), g1, if_neg (by decide), if_pos rfl, hd, wal_Join.j1, if_neg (by decide), if_pos (by omega), g2, if_pos (by omega), if_pos (by decide), g1, if_pos rfl, hw]
/-- the blocks of one record, joined -/
theorem join_rec (L : List ByteArray) (hL : L.length ≤ 1000) (S : ByteArray) (x : List S33) (hS : S.size ≤ 16384) (hg : ∀ k, 300 ≤ k → wal_Get.f k S = some (x, 0)) :
    ∀ (d : Nat) (s acc : ByteArray) (i k : Nat) (out : List (List S33)) (op : Bool) (T : List ByteArray), acc ++ s = S → s.size ≤ 461 * d + 461 → L.drop i = blks d s ++ T → out.length < 1000 → 300 ≤ k →
      wal_Join.l0 (k + 2 * (blks d s).length) out acc op L (L.length : Int) (i : Int) = wal_Join.l0 k (out ++ [x]) em false L (L.length : Int) ((i + (blks d s).length : Nat) : Int) := by
  have last : ∀ (s acc : ByteArray) (i k : Nat) (out : List (List S33)) (op : Bool) (T : List ByteArray), acc ++ s = S → L.drop i = [(⟨#[1]⟩ : ByteArray) ++ s] ++ T → out.length < 1000 → 300 ≤ k →
      wal_Join.l0 (k + 2) out acc op L (L.length : Int) (i : Int) = wal_Join.l0 k (out ++ [x]) em false L (L.length : Int) ((i + 1 : Nat) : Int) := by
    intro s acc i k out op T he hd ho hk
    obtain ⟨h1, h2, h3⟩ := rd_at hd
    obtain ⟨g1, g2, g3⟩ := head_tail 1 s
    have hz := congrArg ByteArray.size he
    rw [ByteArray.size_append] at hz
    have hw : wrap64 ((i : Int) + 1) = ((i + 1 : Nat) : Int) := by unfold wrap64; omega
    have hb : (([1] : List UInt8) == [0]) = false := by decide
    rw [wal_Join.l0, if_pos (by omega), if_pos (by omega), if_pos (by omega), h2, if_neg (by omega), if_pos (by decide), if_pos (by omega), g1, if_pos rfl, decide_eq_false (by omega), wal_Join.j1, if_neg (by decide), if_pos (by omega), g2, if_pos (by omega), if_pos (by decide), g1, if_neg (by decide), he, hg k hk, Option.bind_some, if_pos rfl, if_pos (by omega), hw, hb]
  intro d
  induction d with
  | zero =>
    intro s acc i k out op T he hs hd ho hk
    exact last s acc i k out op T he hd ho hk
  | succ d ih =>
    intro s acc i k out op T he hs hd ho hk
    unfold blks at hd ⊢
    by_cases c : 461 < s.size
    · rw [if_pos c] at hd ⊢
      have e1 : (s.extract 0 461).size = 461 := by rw [ByteArray.size_extract]; omega
      have e2 : (s.extract 461 s.size).size = s.size - 461 := by rw [ByteArray.size_extract]; omega
      obtain ⟨h1, h2, h3⟩ := rd_at hd
      obtain ⟨g1, g2, g3⟩ := head_tail 0 (s.extract 0 461)
      have hz := congrArg ByteArray.size he
      rw [ByteArray.size_append] at hz
      have hw : wrap64 ((i : Int) + 1) = ((i + 1 : Nat) : Int) := by unfold wrap64; omega
      have hj : (acc ++ s.extract 0 461) ++ s.extract 461 s.size = S := by
        have e : s.extract 0 461 ++ s.extract 461 s.size = s := by
          rw [ByteArray.extract_append_extract, Nat.min_eq_left (Nat.zero_le _), Nat.max_eq_right (by omega)]
          exact ByteArray.extract_zero_size
        rw [append_assoc, e]
        exact he
      have ih2 := ih (s.extract 461 s.size) (acc ++ s.extract 0 461) (i + 1) k out (([0] : List UInt8) == [0]) T hj (by omega) h3 ho hk
      obtain ⟨n, hn⟩ : ∃ n, (blks d (s.extract 461 s.size)).length = n := ⟨_, rfl⟩
      rw [hn] at ih2
      rw [List.length_cons, hn]
      clear hn h3 hd ih last
      have hk2 : k + 2 * (n + 1) = (k + 2 * n) + 2 := by omega
      have hn2 : i + (n + 1) = i + 1 + n := by omega
      rw [hk2, hn2, open_step L _ (s.extract 0 461) acc i (k + 2 * n) out op hL h1 h2 g1 g2 g3 (by omega)]
      exact ih2
    · rw [if_neg c] at hd ⊢
      exact last s acc i k out op T he hd ho hk
/-- blocks that are so many records -/
def JN (B : List ByteArray) (W : List (List S33)) : Prop :=
  ∀ (L : List ByteArray) (i k : Nat) (out : List (List S33)) (T : List ByteArray), L.length ≤ 1000 → L.drop i = B ++ T → out.length + W.length ≤ 500 → 300 ≤ k →
    wal_Join.l0 (k + 2 * B.length) out em false L (L.length : Int) (i : Int) = wal_Join.l0 k (out ++ W) em false L (L.length : Int) ((i + B.length : Nat) : Int)
theorem JN.nil : JN [] [] := fun L i k out T _ _ _ _ => by rw [List.append_nil]; rfl
theorem JN.snoc {B : List ByteArray} {W : List (List S33)} (h : JN B W) (S : ByteArray) (x : List S33) (hS : S.size ≤ 16384) (hg : ∀ k, 300 ≤ k → wal_Get.f k S = some (x, 0)) : JN (B ++ blks 40 S) (W ++ [x]) := by
  intro L i k out T hL hd ho hk
  rw [List.length_append, List.length_singleton] at ho
  have h1 := h L i (k + 2 * (blks 40 S).length) out (blks 40 S ++ T) hL (by rw [hd, List.append_assoc]) (by omega) (by omega)
  have hd2 : L.drop (i + B.length) = blks 40 S ++ T := by
    rw [← List.drop_drop, hd, List.append_assoc, List.drop_left]
  have h2 := join_rec L hL S x hS hg 40 S em (i + B.length) k (out ++ W) false T (empty_append S) (by omega) hd2 (by rw [List.length_append]; omega) hk
  rw [List.length_append, show k + 2 * (B.length + (blks 40 S).length) = k + 2 * (blks 40 S).length + 2 * B.length by omega, h1, h2, List.append_assoc, Nat.add_assoc]
theorem join_end (L : List ByteArray) (W : List (List S33)) (k : Nat) (hk : 1 ≤ k) : wal_Join.l0 k W em false L (L.length : Int) (L.length : Int) = some (W, 0) := by
  obtain ⟨k, rfl⟩ : ∃ m, k = m + 1 := ⟨k - 1, by omega⟩
  rw [wal_Join.l0, if_neg (by omega), if_neg (by decide)]
theorem JN.all {B : List ByteArray} {W : List (List S33)} (h : JN B W) (hB : B.length ≤ 300) (hW : W.length ≤ 500) (k : Nat) (hk : 1000 ≤ k) : wal_Join.f k B = some (W, 0) := by
  have h1 := h B 0 (k - 2 * B.length) [] [] (by omega) (by rw [List.drop_zero, List.append_nil]) (by rw [List.length_nil]; omega) (by omega)
  rw [show k - 2 * B.length + 2 * B.length = k by omega, List.nil_append, Nat.zero_add, join_end B W _ (by omega)] at h1
  exact h1
theorem wins (W : List (List S33)) (hW : W.length ≤ 100) (hs : ∀ x ∈ W, x.length ≤ 100) : ∀ (d i k : Nat), i + d = W.length → d + 200 ≤ k → l15_WalSplits.l2 k W W (i : Int) = some true := by
  intro d
  induction d with
  | zero =>
    intro i k hi hk
    obtain ⟨k, rfl⟩ : ∃ m, k = m + 1 := ⟨k - 1, by omega⟩
    rw [l15_WalSplits.l2, if_neg (by omega)]
  | succ d ih =>
    intro i k hi hk
    obtain ⟨k, rfl⟩ : ∃ m, k = m + 1 := ⟨k - 1, by omega⟩
    have hlt : i < W.length := by omega
    have hr : rd_L4 W (i : Int) = W[i] := by
      rw [rd_L4, Int.toNat_natCast, List.getD_eq_getElem?_getD, List.getElem?_eq_getElem hlt]; rfl
    have hz := hs W[i] (List.getElem_mem hlt)
    have hw : wrap64 ((i : Int) + 1) = ((i + 1 : Nat) : Int) := by unfold wrap64; omega
    rw [l15_WalSplits.l2, if_pos (by omega), if_pos (by omega), if_pos (by omega), hr, same_some W[i] (by omega) k (by omega), Option.bind_some, if_pos rfl, hw]
    exact ih (i + 1) k (by omega) (by omega)
/-- the blocks held one against another -/
theorem blocks_loop (all : List (List S33)) (long : List Int) (B : List ByteArray) (W : List (List S33)) (i : Int) (x : List S33) (S : ByteArray) (R : List ByteArray) (hR : R.length ≤ 100) (hs : ∀ b ∈ R, b.size ≤ 462) :
    ∀ (d j k : Nat), j + d = R.length → l15_WalSplits.l1 (k + d) all long B W i x S R R (j : Int) = l15_WalSplits.l1 k all long B W i x S R R (R.length : Int) := by
  intro d
  induction d with
  | zero =>
    intro j k hj
    rw [Nat.add_zero, show j = R.length by omega]
  | succ d ih =>
    intro j k hj
    have hlt : j < R.length := by omega
    have hw : wrap64 ((j : Int) + 1) = ((j + 1 : Nat) : Int) := by unfold wrap64; omega
    have hr : rdOf ByteArray.empty R (j : Int) = R[j] := by
      rw [rdOf, Int.toNat_natCast, List.getD_eq_getElem?_getD, List.getElem?_eq_getElem hlt]; rfl
    have hz := hs R[j] (List.getElem_mem hlt)
    rw [← ih (j + 1) k (by omega), show k + (d + 1) = (k + d) + 1 by omega, l15_WalSplits.l1, if_pos (by omega), if_pos (by omega), if_pos (by omega), if_pos rfl, hr, if_neg (by omega), hw]
theorem blocks_end (all : List (List S33)) (long : List Int) (B : List ByteArray) (W : List (List S33)) (i : Int) (x : List S33) (S : ByteArray) (R : List ByteArray) (k : Nat) (hB : B.length + R.length ≤ 1000) (hW : W.length ≤ 1000) :
    l15_WalSplits.l1 (k + 1) all long B W i x S R R (R.length : Int) = if S.toList = ([] : List UInt8) then l15_WalSplits.l0 k all long B W (wrap64 (i + 1)) else l15_WalSplits.l0 k all long (B ++ R) (W ++ [x]) (wrap64 (i + 1)) := by
  rw [l15_WalSplits.l1, if_neg (by omega)]
  by_cases c : S.toList = ([] : List UInt8)
  · rw [if_pos c, if_pos c]
  · rw [if_neg c, if_neg c, if_pos (by omega), if_pos (by omega)]
theorem fin_ (all : List (List S33)) (long : List Int) (B : List ByteArray) (W : List (List S33)) (i : Int) (k : Nat) (hk : 1200 ≤ k) (hJ : JN B W) (hB : B.length ≤ 300) (hW : W.length ≤ 100) (hs : ∀ x ∈ W, x.length ≤ 100) :
    l15_WalSplits.j1 k all long B W i false = some true := by
  obtain ⟨k, rfl⟩ : ∃ m, k = m + 3 := ⟨k - 3, by omega⟩
  have ha : l15_awake.f (k + 2) = some true := by
    have h := awake_k (k + 2 - 60)
    rwa [show 60 + (k + 2 - 60) = k + 2 by omega] at h
  have hne : ((W.length : Int) != (W.length : Int)) = false := by simp
  rw [l15_WalSplits.j1, if_neg (by decide), hJ.all hB (by omega) (k + 2) (by omega), Option.bind_some, ha, Option.bind_some, if_pos rfl, if_pos rfl]
  show l15_WalSplits.j4 (k + 2) W W ((W.length : Int) != (W.length : Int)) = _
  rw [hne, l15_WalSplits.j4, if_neg (by decide)]
  exact wins W hW hs W.length 0 (k + 1) (by omega) (by omega)
theorem loop (all : List (List S33)) (long : List Int) : ∀ (d i k : Nat) (B : List ByteArray) (W : List (List S33)), i + d = 5 → 60 * d + 1300 ≤ k → JN B W → B.length ≤ 40 * i → W.length ≤ i → (∀ x ∈ W, x.length ≤ 100) →
    l15_WalSplits.l0 k all long B W (i : Int) = some true := by
  intro d
  induction d with
  | zero =>
    intro i k B W hi hk hJ hB hW hs
    obtain ⟨k, rfl⟩ : ∃ m, k = m + 1 := ⟨k - 1, by omega⟩
    have hf := fin_ all long B W (i : Int) k (by omega) hJ (by omega) (by omega) hs
    have hd : decide ((i : Int) < 5) = false := decide_eq_false (by omega)
    rw [l15_WalSplits.l0, hd]
    by_cases c1 : (i : Int) < (all.length : Int)
    · rw [if_pos c1]
      by_cases c2 : (i : Int) < (long.length : Int)
      · rw [if_pos c2]; exact hf
      · rw [if_neg c2]; exact hf
    · rw [if_neg c1]; exact hf
  | succ d ih =>
    intro i k B W hi hk hJ hB hW hs
    obtain ⟨k, rfl⟩ : ∃ m, k = m + 100 := ⟨k - 100, by omega⟩
    have hf := fin_ all long B W (i : Int) (k + 99) (by omega) hJ (by omega) (by omega) hs
    have hd : decide ((i : Int) < 5) = true := decide_eq_true (by omega)
    have hw : wrap64 ((i : Int) + 1) = ((i + 1 : Nat) : Int) := by unfold wrap64; omega
    rw [l15_WalSplits.l0, hd]
    by_cases c1 : (i : Int) < (all.length : Int)
    · rw [if_pos c1]
      by_cases c2 : (i : Int) < (long.length : Int)
      · rw [if_pos c2]
        obtain ⟨x, hx, hxl⟩ := cut_ok (rd_L4 all (i : Int)) (rd long (i : Int)) (k + 98) (by omega)
        have put : r15_Put.f (k + 98) x = some em ∨ (okL x ∧ r15_Put.f (k + 98) x = some (rec_ x) ∧ ¬ ((rec_ x).size : Int) > 16384) := by
          by_cases ok : okL x
          · have h := rput_ok x ok (k + 98) (by omega)
            by_cases c : ((rec_ x).size : Int) > 16384
            · rw [kept, if_pos c] at h; exact .inl h
            · rw [kept, if_neg c] at h; exact .inr ⟨ok, h, c⟩
          · exact .inl (rput_not x (by omega) ok (k + 98) (by omega))
        have go : ∀ S : ByteArray, S.size ≤ 16384 → r15_Put.f (k + 98) x = some S → (S.toList ≠ [] → ∀ q, 300 ≤ q → wal_Get.f q S = some (x, 0)) →
            l15_WalSplits.j1 (k + 99) all long B W (i : Int) true = some true := by
          intro S hS hp hg
          have h1 := split_eq 40 (k + 98) S [] (by omega) (by omega) (by simp)
          have h2 := rsplit_eq 40 (k + 98) S [] (by omega) (by omega) (by simp)
          have h3 := blocks_eq S hS
          have h4 := blks_small 40 S (by omega)
          have h5 := blks_len 40 S (by omega)
          obtain ⟨R, hR⟩ : ∃ R, blks 40 S = R := ⟨_, rfl⟩
          have hJ2 : S.toList ≠ [] → JN (B ++ R) (W ++ [x]) := fun h => by rw [← hR]; exact hJ.snoc S x hS (hg h)
          rw [hR] at h1 h2 h3 h4 h5
          have hRl : R.length ≤ 40 := by omega
          have h6 : wal_Split.f (k + 98) S = some R := h1
          have h7 : r15_Split.f (k + 98) S = some R := h2
          have hne : ((R.length : Int) != (R.length : Int)) = false := by simp
          have h8 := blocks_loop all long B W (i : Int) x S R (by omega) h4 R.length 0 (k + 97 - R.length) (by omega)
          rw [show k + 97 - R.length + R.length = k + 97 by omega, show k + 97 - R.length = (k + 96 - R.length) + 1 by omega, blocks_end all long B W (i : Int) x S R _ (by omega) (by omega)] at h8
          rw [l15_WalSplits.j1, if_pos rfl, if_pos (by omega), if_pos c1, if_pos c2, hx, Option.bind_some, hp, Option.bind_some, h6, Option.bind_some, h7, Option.bind_some, if_pos rfl, h3, Option.bind_some, hne, l15_WalSplits.j2, if_neg (by decide)]
          refine h8.trans ?_
          by_cases ce : S.toList = ([] : List UInt8)
          · rw [if_pos ce, hw]
            exact ih (i + 1) _ B W (by omega) (by omega) hJ (by omega) (by omega) hs
          · rw [if_neg ce, hw]
            refine ih (i + 1) _ (B ++ R) (W ++ [x]) (by omega) (by omega) (hJ2 ce) (by rw [List.length_append]; omega) (by rw [List.length_append, List.length_singleton]; omega) (fun y hy => ?_)
            rcases List.mem_append.mp hy with hy | hy
            · exact hs y hy
            · rcases List.mem_singleton.mp hy with rfl
              omega
        rcases put with hp | ⟨ok, hp, hc⟩
        · exact go em (by decide) hp (fun h => absurd em_nil h)
        · exact go (rec_ x) (by omega) hp (fun _ q hq => get_ok x ok hc q hq)
      · rw [if_neg c2]; exact hf
    · rw [if_neg c1]; exact hf
theorem law (all : List (List S33)) (long : List Int) : l15_WalSplits.f 2000 all long = some true :=
  loop all long 5 0 2000 [] [] rfl (by omega) JN.nil (Nat.zero_le _) (Nat.zero_le _) (fun x hx => absurd hx List.not_mem_nil)
end Go.Proofs.Ytlahimndndlbiaa.PureSplits
