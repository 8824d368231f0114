/- The plain law of WalJoins: blocks of which one is missing at the end of a record, or holds something else, are no records. -/
import Derived.Test.YtlahimndndlbiaaPWalJoinsx8
import Derived.Test.YtlahimndndlbiaaQWalJoins
namespace Go.Proofs.Ytlahimndndlbiaa.PureJoins
open Go.RowKit Go.Proofs.Ytlahimndndlbiaa.PWalJoins Go.Proofs.YtlahimndndlbiaaW.PrintWords Go.Proofs.YtlahimndndlbiaaW.PrintLast Go.Proofs.YtlahimndndlbiaaW.PrintMore Go.Proofs.Ytlahimndndlbiaa.XB Go.Proofs.Ytlahimndndlbiaa.RWalJoins Go.Proofs.Ytlahimndndlbiaa.QWalJoins
set_option linter.unusedVariables false
set_option linter.unusedSimpArgs false
theorem awake_60 : lodestonelaw15_awake.f 60 = some true := by decide +kernel
theorem awake_k : ∀ d, lodestonelaw15_awake.f (60 + d) = some true
  | 0 => awake_60
  | d + 1 => lodestonelaw15_awake.mono (60 + d) true (awake_k d)
abbrev c0 : S33 := ⟨(⟨#[97]⟩ : ByteArray), (⟨#[98]⟩ : ByteArray), false⟩
theorem or512 (a : Int) : ∃ q : Nat, Go.bits .and .i64 (Go.bits .or .i64 a 512) 8191 = (q : Int) ∧ 512 ≤ q ∧ q < 8192 := by
  obtain ⟨X, hX⟩ : ∃ X : Nat, (BitVec.ofInt 64 a ||| BitVec.ofInt 64 512).toNat = X := ⟨_, rfl⟩
  have hU : Go.bits .or .i64 a 512 = wrap64 (X : Int) := by
    rw [← hX]
    show IntKind.i64.wrap (((BitVec.ofInt 64 a ||| BitVec.ofInt 64 512).toNat : Nat) : Int) = _
    unfold wrap64
    simp only [IntKind.wrap, IntKind.bits, IntKind.signed]
    simp
    split <;> omega
  have h1 : Go.bits .and .i64 (Go.bits .or .i64 a 512) ((2 ^ 13 - 1 : Nat) : Int) = (Go.bits .or .i64 a 512) % ((2 ^ 13 : Nat) : Int) := and_mask64 _ 13 (by decide) (by decide)
  have h2 : Go.bits .and .i64 (Go.bits .or .i64 a 512) 8191 = (Go.bits .or .i64 a 512) % 8192 := h1
  have hb : (X % 2 ^ 13).testBit 9 = true := by
    rw [← hX, BitVec.toNat_or, Nat.testBit_mod_two_pow, Nat.testBit_or]
    have h5 : (BitVec.ofInt 64 512).toNat.testBit 9 = true := by decide
    rw [h5]
    simp
  have hg : X % 2 ^ 13 ≥ 2 ^ 9 := Nat.ge_two_pow_of_testBit hb
  refine ⟨X % 8192, ?_, by omega, by omega⟩
  rw [h2, hU]
  unfold wrap64
  omega
/-- a block of a record that goes on -/
def isOpen (b : ByteArray) : Prop := ∃ t : ByteArray, b = (⟨#[0]⟩ : ByteArray) ++ t ∧ t.size = 461
theorem split_loop : ∀ (d k : Nat) (s : ByteArray) (out : List ByteArray), s.size ≤ 461 * d + 461 → d + 1 ≤ k → out.length + d ≤ 1000 →
    ∃ (P : List ByteArray) (z : ByteArray), wal_Split.l0 k s out = some (out ++ (P ++ [z])) ∧ (461 < s.size → P ≠ []) ∧ (∀ b ∈ P, isOpen b) ∧ 461 * P.length ≤ s.size := by
  intro d
  induction d with
  | zero =>
    intro k s out hs hk ho
    obtain ⟨k, rfl⟩ : ∃ m, k = m + 1 := ⟨k - 1, by omega⟩
    refine ⟨[], (⟨#[1]⟩ : ByteArray) ++ s, ?_, fun h => by omega, fun b hb => absurd hb List.not_mem_nil, by simp⟩
    rw [wal_Split.l0, if_neg (by omega), if_pos (by omega), if_pos (by omega)]
    rfl
  | succ d ih =>
    intro k s out hs hk ho
    obtain ⟨k, rfl⟩ : ∃ m, k = m + 1 := ⟨k - 1, by omega⟩
    by_cases c : (s.size : Int) > 461
    · have e1 : (s.extract 0 461).size = 461 := by rw [ByteArray.size_extract]; omega
      have e2 : (s.extract 461 s.size).size = s.size - 461 := by rw [ByteArray.size_extract]; omega
      obtain ⟨P, z, h1, h2, h3, h4⟩ := ih k (s.extract 461 s.size) (out ++ [(⟨#[0]⟩ : ByteArray) ++ s.extract 0 461]) (by omega) (by omega) (by rw [List.length_append, List.length_singleton]; omega)
      refine ⟨((⟨#[0]⟩ : ByteArray) ++ s.extract 0 461) :: P, z, ?_, fun _ => List.cons_ne_nil _ _, fun b hb => ?_, by rw [List.length_cons]; omega⟩
      · rw [wal_Split.l0, if_pos c, if_pos (by decide), if_pos (by omega), if_pos (by omega), if_pos (by omega), h1]
        simp
      · rcases List.mem_cons.mp hb with rfl | hb
        · exact ⟨_, rfl, e1⟩
        · exact h3 b hb
    · refine ⟨[], (⟨#[1]⟩ : ByteArray) ++ s, ?_, fun h => by omega, fun b hb => absurd hb List.not_mem_nil, by simp⟩
      rw [wal_Split.l0, if_neg c, if_pos (by omega), if_pos (by omega)]
      rfl
theorem open_size {b : ByteArray} (h : isOpen b) : b.size = 462 := by
  obtain ⟨t, rfl, ht⟩ := h
  have h1 : (⟨#[0]⟩ : ByteArray).size = 1 := rfl
  rw [ByteArray.size_append]; omega
theorem open_head {b : ByteArray} (h : isOpen b) : (b.extract 0 1).toList = [0] := by
  obtain ⟨t, rfl, ht⟩ := h
  have h1 : ((⟨#[0]⟩ : ByteArray) ++ t).extract 0 (⟨#[0]⟩ : ByteArray).size = (⟨#[0]⟩ : ByteArray) := extract_left _ _
  have h2 : ((⟨#[0]⟩ : ByteArray) ++ t).extract 0 1 = (⟨#[0]⟩ : ByteArray) := h1
  rw [h2, toList_data]
theorem open_tail {b : ByteArray} (h : isOpen b) : (b.extract 1 b.size).size = 461 := by rw [ByteArray.size_extract, open_size h]; rfl
/-- blocks that go on, and then an end: no records -/
theorem join_open (L : List ByteArray) (hL : ∀ b ∈ L, isOpen b) (hz : 461 * L.length ≤ 16384) : ∀ (d i k : Nat) (acc : ByteArray) (op : Bool), i + d = L.length → 2 * d + 1 ≤ k → acc.size = 461 * i → (op = true ∨ 0 < d) →
    wal_Join.l0 k ([] : List (List S33)) acc op L (L.length : Int) (i : Int) = some ([], 3) := by
  intro d
  induction d with
  | zero =>
    intro i k acc op hi hk ha ho
    obtain ⟨k, rfl⟩ : ∃ m, k = m + 1 := ⟨k - 1, by omega⟩
    have ho2 : op = true := by rcases ho with h | h; exact h; omega
    rw [wal_Join.l0, if_neg (by omega), if_pos ho2]
  | succ d ih =>
    intro i k acc op hi hk ha ho
    obtain ⟨k, rfl⟩ : ∃ m, k = m + 2 := ⟨k - 2, by omega⟩
    have hlt : i < L.length := by omega
    obtain ⟨b, hb⟩ : ∃ b, L[i] = b := ⟨_, rfl⟩
    have hbo : isOpen b := by rw [← hb]; exact hL _ (List.getElem_mem hlt)
    have hr : rdOf ByteArray.empty L (i : Int) = b := by rw [rdOf, Int.toNat_natCast, List.getD_eq_getElem?_getD, List.getElem?_eq_getElem hlt, hb]; rfl
    have s1 := open_size hbo
    have s2 := open_tail hbo
    have s3 := open_head hbo
    have hw : wrap64 ((i : Int) + 1) = ((i + 1 : Nat) : Int) := by unfold wrap64; omega
    rw [wal_Join.l0, if_pos (by omega), if_pos (by omega), if_pos (by omega), hr, if_neg (by omega), if_pos (by decide), if_pos (by omega), s3, if_neg (by decide), if_pos rfl, decide_eq_false (by omega), wal_Join.j1, if_neg (by decide), if_pos (by omega), if_pos (by omega), if_pos (by decide), s3, if_pos rfl, hw]
    exact ih (i + 1) k _ _ (by omega) (by omega) (by rw [ByteArray.size_append, s2, ha]; omega) (.inl (by decide))
theorem join_nil (k : Nat) (hk : 1 ≤ k) : wal_Join.f k ([] : List ByteArray) = some ([], 0) := by
  obtain ⟨k, rfl⟩ : ∃ m, k = m + 1 := ⟨k - 1, by omega⟩
  unfold wal_Join.f
  rw [wal_Join.l0, if_neg (by decide), if_neg (by decide)]
/-- a first block that may not be -/
theorem join_bad (b : ByteArray) (h : (b.size : Int) < 1 ∨ (1 ≤ (b.size : Int) ∧ (b.extract 0 1).toList ≠ [1] ∧ (b.extract 0 1).toList ≠ [0])) (k : Nat) (hk : 2 ≤ k) : wal_Join.f k [b] = some ([], 3) := by
  obtain ⟨k, rfl⟩ : ∃ m, k = m + 2 := ⟨k - 2, by omega⟩
  have hr : rdOf ByteArray.empty [b] 0 = b := rfl
  unfold wal_Join.f
  show wal_Join.l0 (k + 2) _ _ _ [b] 1 0 = _
  rw [wal_Join.l0, if_pos (by decide), if_pos (by decide), if_pos (by simp), hr]
  rcases h with h | ⟨h, h1, h2⟩
  · rw [if_pos h, wal_Join.j1, if_pos rfl]
  · rw [if_neg (by omega), if_pos (by decide), if_pos h, if_neg h1, if_neg h2, wal_Join.j1, if_pos rfl]
/-- one block that goes on, and an empty one -/
theorem join_two (b : ByteArray) (hb : isOpen b) (k : Nat) (hk : 4 ≤ k) : wal_Join.f k [b, em] = some ([], 3) := by
  obtain ⟨k, rfl⟩ : ∃ m, k = m + 4 := ⟨k - 4, by omega⟩
  have s1 := open_size hb
  have s2 := open_tail hb
  have s3 := open_head hb
  have hr : rdOf ByteArray.empty [b, em] 0 = b := rfl
  have hr1 : rdOf ByteArray.empty [b, em] 1 = em := rfl
  have hw : wrap64 (0 + 1) = 1 := w64 (by decide) (by decide)
  have he : em.size = 0 := rfl
  unfold wal_Join.f
  show wal_Join.l0 (k + 4) _ em _ [b, em] 2 0 = _
  rw [wal_Join.l0, if_pos (by decide), if_pos (by decide), if_pos (by simp), hr, if_neg (by omega), if_pos (by decide), if_pos (by omega), s3, if_neg (by decide), if_pos rfl, decide_eq_false (by rw [he]; decide), wal_Join.j1, if_neg (by decide), if_pos (by omega), if_pos (by omega), if_pos (by decide), s3, if_pos rfl, hw, wal_Join.l0, if_pos (by decide), if_pos (by decide), if_pos (by simp), hr1, if_pos (by rw [he]; decide), wal_Join.j1, if_pos rfl]
theorem cut_loop2 (l : List S33) (a : Int) : ∀ (d i k : Nat) (out : List S33), i + d = 12 → 2 * d + 2 ≤ k → out.length = i → 1 ≤ i → i ≤ l.length → ∃ r, lodestonelaw15_cut.l0 k l a out (i : Int) = some (out ++ r) ∧ (out ++ r).length ≤ 12 := by
  intro d
  induction d with
  | zero =>
    intro i k out hi hk ho h1 hil
    obtain ⟨k, rfl⟩ : ∃ m, k = m + 2 := ⟨k - 2, by omega⟩
    have hd : decide ((i : Int) < 12) = false := decide_eq_false (by omega)
    refine ⟨[], ?_, by rw [List.append_nil]; omega⟩
    rw [List.append_nil]
    by_cases c : (i : Int) < (l.length : Int)
    · rw [lodestonelaw15_cut.l0, if_pos c, hd, lodestonelaw15_cut.j1, if_neg (by decide)]
    · rw [lodestonelaw15_cut.l0, if_neg c, lodestonelaw15_cut.j1, if_neg (by decide)]
  | succ d ih =>
    intro i k out hi hk ho h1 hil
    obtain ⟨k, rfl⟩ : ∃ m, k = m + 2 := ⟨k - 2, by omega⟩
    have hd : decide ((i : Int) < 12) = true := decide_eq_true (by omega)
    have hw : wrap64 ((i : Int) + 1) = ((i + 1 : Nat) : Int) := by unfold wrap64; omega
    by_cases c : (i : Int) < (l.length : Int)
    · obtain ⟨e, he⟩ : ∃ e, rd_T33 l (i : Int) = e := ⟨_, rfl⟩
      obtain ⟨a1, a2, a3⟩ := cut_some e.f0 100 (by decide)
      obtain ⟨b1, b2, b3⟩ := cut_some e.f1 60 (by decide)
      have next : ∀ z : S33, ∃ r, lodestonelaw15_cut.l0 k l a (out ++ [z]) ((i + 1 : Nat) : Int) = some (out ++ r) ∧ (out ++ r).length ≤ 12 := fun z => by
        obtain ⟨r, h2, h3⟩ := ih (i + 1) k (out ++ [z]) (by omega) (by omega) (by rw [List.length_append, List.length_singleton, ho]) (by omega) (by omega)
        exact ⟨[z] ++ r, by rw [h2, List.append_assoc], by rw [← List.append_assoc]; exact h3⟩
      rw [lodestonelaw15_cut.l0, if_pos c, hd, lodestonelaw15_cut.j1, if_pos rfl, if_pos (by omega), if_pos c, he, if_pos a1, if_pos a2, if_pos b1, if_pos b2, hw, if_neg (by omega), if_pos (by omega)]
      exact next _
    · rw [lodestonelaw15_cut.l0, if_neg c, lodestonelaw15_cut.j1, if_neg (by decide)]
      exact ⟨[], by rw [List.append_nil], by rw [List.append_nil]; omega⟩
theorem cut_first (l : List S33) (a : Int) (k : Nat) (hk : 30 ≤ k) : ∃ (e : S33) (r : List S33), lodestonelaw15_cut.f k (c0 :: l) (Go.bits .or .i64 a 512) = some (e :: r) ∧ (e :: r).length ≤ 12 ∧ e.f2 = false ∧ 500 ≤ e.f1.size := by
  obtain ⟨k, rfl⟩ : ∃ m, k = m + 2 := ⟨k - 2, by omega⟩
  obtain ⟨q, hq, h1, h2⟩ := or512 a
  have hr : rd_T33 (c0 :: l) 0 = c0 := rfl
  obtain ⟨a1, a2, a3⟩ := cut_some c0.f0 100 (by decide)
  obtain ⟨b1, b2, b3⟩ := cut_some c0.f1 60 (by decide)
  have hw : wrap64 (0 + 1) = ((1 : Nat) : Int) := w64 (by decide) (by decide)
  have hz : (strOfNums (List.replicate (q : Int).toNat 0)).size = q := by rw [strOfNums_size, List.length_replicate]; omega
  unfold lodestonelaw15_cut.f
  have hlen : ((0 : Int) < (((c0 :: l).length : Nat) : Int)) := by rw [List.length_cons]; omega
  rw [lodestonelaw15_cut.l0, if_pos hlen, show decide ((0 : Int) < 12) = true by decide, lodestonelaw15_cut.j1, if_pos rfl, if_pos (by decide), if_pos hlen, hr, if_pos a1, if_pos a2, if_pos b1, if_pos b2, if_pos rfl, if_neg (by decide), hq, if_pos (by omega), if_pos (by omega), Option.bind_some, if_pos (by rw [hz]; omega), if_pos (by decide), hw]
  obtain ⟨r, h3, h4⟩ := cut_loop2 (c0 :: l) (Go.bits .or .i64 a 512) 11 1 k ([] ++ [(⟨c0.f0.extract 0 ((mn (c0.f0.size : Int) 100) : Int).toNat, (c0.f1.extract 0 ((mn (c0.f1.size : Int) 60) : Int).toNat) ++ (strOfNums (List.replicate (q : Int).toNat 0)), c0.f2⟩ : S33)]) (by omega) (by omega) rfl (by decide) (by rw [List.length_cons]; omega)
  exact ⟨_, r, h3, h4, rfl, by show 500 ≤ ((c0.f1.extract 0 _) ++ (strOfNums (List.replicate (q : Int).toNat 0))).size; rw [ByteArray.size_append, hz]; omega⟩
theorem rec_long (e : S33) (r : List S33) (h2 : e.f2 = false) (hs : 500 ≤ e.f1.size) : 461 < (rec_ (e :: r)).size := by
  have h3 : enc e = (tru e.f2 ++ txt e.f0) ++ txt e.f1 := by rw [enc, if_neg (by rw [h2]; decide)]
  have h4 : (txt e.f1).size = (strOfNums (leb 10 (e.f1.size : Int))).size + e.f1.size := by rw [txt, ByteArray.size_append]
  rw [rec_, ByteArray.size_append]
  show 461 < _ + (enc e ++ encL r).size
  rw [ByteArray.size_append, h3, ByteArray.size_append, h4]
  omega
theorem two_head (t : ByteArray) : (((⟨#[2]⟩ : ByteArray) ++ t).extract 0 1).toList = [2] := by
  have h1 : ((⟨#[2]⟩ : ByteArray) ++ t).extract 0 (⟨#[2]⟩ : ByteArray).size = (⟨#[2]⟩ : ByteArray) := extract_left _ _
  have h2 : ((⟨#[2]⟩ : ByteArray) ++ t).extract 0 1 = (⟨#[2]⟩ : ByteArray) := h1
  rw [h2, toList_data]
theorem law (l : List S33) (a : Int) (odd : ByteArray) (hl : l.length < 3518437208880) (ho : odd.size ≤ 140737488351232) : lodestonelaw15_WalJoins.f 500 l a odd = some true := by
  obtain ⟨e, r, hx, hxl, h2, hs⟩ := cut_first l a 500 (by decide)
  have ha : lodestonelaw15_awake.f 500 = some true := awake_k 440
  unfold lodestonelaw15_WalJoins.f
  rw [Option.bind_some, if_pos (by simp; omega)]
  show ((lodestonelaw15_cut.f 500 (c0 :: l) (Go.bits .or .i64 a 512)).bind _) = _
  rw [hx, Option.bind_some]
  have none_ : lodestoneref15_Put.f 500 (e :: r) = some em → ((lodestoneref15_Put.f 500 (e :: r)).bind fun t249 => (if t249.toList = ([] : List UInt8) then ((wal_Join.f 500 ([odd.extract 0 0] : List ByteArray)).bind fun bt253 => ((lodestonelaw15_awake.f 500).bind fun t257 => (if t257 = true then (some (bt253.2 == 3)) else (some false)))) else none)) = some true := by
    intro h
    rw [h, Option.bind_some, if_pos em_nil, join_bad _ (.inl (by rw [ByteArray.size_extract]; omega)) 500 (by decide), Option.bind_some, ha, Option.bind_some, if_pos rfl]
    rfl
  have put : (lodestoneref15_Put.f 500 (e :: r) = some em) ∨ (lodestoneref15_Put.f 500 (e :: r) = some (rec_ (e :: r)) ∧ ¬ ((rec_ (e :: r)).size : Int) > 16384) := by
    by_cases ok : okL (e :: r)
    · have h := rput_ok _ ok 500 (by decide)
      by_cases c : ((rec_ (e :: r)).size : Int) > 16384
      · rw [kept, if_pos c] at h; exact .inl h
      · rw [kept, if_neg c] at h; exact .inr ⟨h, c⟩
    · exact .inl (rput_not _ (by omega) ok 500 (by omega))
  rcases put with h | ⟨h, hc⟩
  · rw [h, Option.bind_some, if_pos em_nil, if_pos (by decide), if_pos (by omega), join_bad _ (.inl (by rw [ByteArray.size_extract]; omega)) 500 (by decide), Option.bind_some, ha, Option.bind_some, if_pos rfl]
    rfl
  · have hlong := rec_long e r h2 hs
    obtain ⟨S, hS⟩ : ∃ S, rec_ (e :: r) = S := ⟨_, rfl⟩
    have hne := rec_ne (e :: r)
    rw [hS] at h hc hlong hne
    clear hS
    obtain ⟨P, z, hp, hP, hO, hN⟩ := split_loop 40 500 S [] (by omega) (by omega) (by simp)
    have hsp : wal_Split.f 500 S = some (P ++ [z]) := by unfold wal_Split.f; rw [hp]; rfl
    obtain ⟨b, P2, rfl⟩ : ∃ b P2, P = b :: P2 := by
      cases P with
      | nil => exact absurd rfl (hP hlong)
      | cons b P2 => exact ⟨b, P2, rfl⟩
    have hlen : (((b :: P2) ++ [z]).length : Int) = (P2.length : Int) + 2 := by simp; omega
    have hw : wrap64 ((((b :: P2) ++ [z]).length : Int) - 1) = ((P2.length + 1 : Nat) : Int) := by rw [hlen, w64 (by omega) (by rw [List.length_cons] at hN; omega)]; omega
    have ht : ((b :: P2) ++ [z]).take (((P2.length + 1 : Nat) : Int)).toNat = b :: P2 := by
      rw [Int.toNat_natCast]
      exact List.take_left' (by rw [List.length_cons])
    have ht1 : ((b :: P2) ++ [z]).take 1 = [b] := rfl
    have j1 : wal_Join.f 500 (b :: P2) = some ([], 3) := join_open (b :: P2) hO (by omega) (P2.length + 1) 0 500 em false (by rw [List.length_cons]; omega) (by rw [List.length_cons] at hN; omega) rfl (.inr (by omega))
    have j2 : wal_Join.f 500 [b, em] = some ([], 3) := join_two b (hO b List.mem_cons_self) 500 (by decide)
    obtain ⟨g1, g2, g3⟩ := cut_some odd 100 (by decide)
    obtain ⟨O, hOo⟩ : ∃ O, odd.extract 0 ((mn (odd.size : Int) 100) : Int).toNat = O := ⟨_, rfl⟩
    have hOs : (O.size : Int) ≤ 100 := by rw [← hOo]; exact g3
    have j3 : wal_Join.f 500 [(⟨#[2]⟩ : ByteArray) ++ O] = some ([], 3) := join_bad _ (.inr ⟨by rw [ByteArray.size_append]; show (1 : Int) ≤ ((1 + O.size : Nat) : Int); omega, by rw [two_head]; decide, by rw [two_head]; decide⟩) 500 (by decide)
    rw [h, Option.bind_some, if_neg hne, hsp, Option.bind_some, if_neg (by omega), hw, if_pos (by omega), if_pos (by omega), ht, j1, Option.bind_some, Option.bind_some, if_pos (by omega), ht1, Option.bind_some, if_pos (by simp), Option.bind_some, if_pos (by simp)]
    show ((wal_Join.f 500 [b, em]).bind _) = _
    rw [j2, Option.bind_some, if_pos g1, if_pos g2, hOo, if_pos (by omega), j3, Option.bind_some, join_nil 500 (by decide), Option.bind_some, ha, Option.bind_some, if_pos rfl, if_pos rfl, if_pos rfl, if_pos rfl, if_pos rfl]
    rfl
end Go.Proofs.Ytlahimndndlbiaa.PureJoins
