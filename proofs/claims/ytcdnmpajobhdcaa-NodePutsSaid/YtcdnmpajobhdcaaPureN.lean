/- A node's bytes: the program's and the document's, and read again. -/
import Derived.Test.YtcdnmpajobhdcaaPureNum
import Derived.Test.YtcdnmpajobhdcaaPureM
import Derived.Test.YtcdnmpajobhdcaaPNodePutsx4
import Derived.Test.YtcdnmpajobhdcaaPNodePutsx6
import Derived.Test.YtcdnmpajobhdcaaPNodePutsx9
import Derived.Test.YtcdnmpajobhdcaaPNodePutsx10
import Derived.Test.YtcdnmpajobhdcaaPNodePutsx12
namespace Go.Proofs.Ytcdnmpajobhdcaa.Pure
open Go.RowKit Go.Proofs.Ytcdnmpajobhdcaa.PNodePuts Go.Proofs.Ytcdnmpajobhdcaa.Nd Go.Proofs.YtcdnmpajobhdcaaW.PrintWords Go.Proofs.YtcdnmpajobhdcaaW.PrintLast Go.Proofs.YtcdnmpajobhdcaaW.PrintMore Go.Proofs.Ytcdnmpajobhdcaa.XB
set_option linter.unusedVariables false
set_option linter.unusedSimpArgs false
abbrev em : ByteArray := (⟨#[]⟩ : ByteArray)
theorem em_nil : em.toList = [] := (toList_data em).trans rfl
def txt (t : ByteArray) : ByteArray := strOfNums (leb 10 (t.size : Int)) ++ t
def nu (n : Int) : ByteArray := strOfNums (leb 10 n)
theorem nu_size (n : Int) : (nu n).size ≤ 10 := by rw [nu, strOfNums_size]; exact leb_length 10 n
theorem txt_size (t : ByteArray) : (txt t).size ≤ 10 + t.size := by
  rw [txt, ByteArray.size_append]
  have := nu_size (t.size : Int)
  unfold nu at this
  omega
theorem text_k (t : ByteArray) (ht : t.size ≤ 140737488355328) (k : Nat) (hk : 10 ≤ k) : code_Text.f k t = some (txt t) := by
  unfold code_Text.f
  rw [if_pos (by omega), num_some _ (by omega) (by omega) k hk]
  simp only [obs]
  have := nu_size (t.size : Int)
  unfold nu at this
  rw [if_pos (by omega), txt]
theorem rtext_k (t : ByteArray) (ht : t.size ≤ 140737488355328) (k : Nat) (hk : 10 ≤ k) : lodestoneref04_Text.f k t = some (txt t) := by
  unfold lodestoneref04_Text.f
  rw [if_pos (by omega), ref_num_some _ (by omega) (by omega) k hk]
  simp only [obs]
  have := nu_size (t.size : Int)
  unfold nu at this
  rw [if_pos (by omega), txt]
/-- entries, pages below, as bytes -/
def encE (x : S43) : ByteArray := txt x.f0 ++ txt x.f1
def encK (x : S41) : ByteArray := (txt x.f0 ++ nu x.f1.f0) ++ x.f1.f1
def encEs : List S43 → ByteArray
  | [] => em
  | x :: l => encE x ++ encEs l
def encKs : List S41 → ByteArray
  | [] => em
  | x :: l => encK x ++ encKs l
def szE (x : S43) : Prop := x.f0.size ≤ 140737488355328 ∧ x.f1.size ≤ 140737488355328
def szK (x : S41) : Prop := x.f0.size ≤ 140737488355328 ∧ x.f1.f1.size ≤ 140737488355328 ∧ 0 ≤ x.f1.f0 ∧ x.f1.f0 < 18446744073709551616
/-- what a node has at most here -/
def szN (es : List S43) (ks : List S41) : Prop := es.length ≤ 100 ∧ ks.length ≤ 100 ∧ (∀ i, i < es.length → szE (rd_T43 es (i : Int))) ∧ (∀ i, i < ks.length → szK (rd_T41 ks (i : Int)))
def bytesN (es : List S43) (ks : List S41) : ByteArray := if (es.length : Int) > 0 then ((⟨#[76]⟩ : ByteArray) ++ nu (es.length : Int)) ++ encEs es else ((⟨#[73]⟩ : ByteArray) ++ nu (ks.length : Int)) ++ encKs ks
theorem dropE (es : List S43) (i : Nat) (h : i < es.length) : es.drop i = rd_T43 es (i : Int) :: es.drop (i + 1) := by
  rw [List.drop_eq_getElem_cons h, rd_T43, Int.toNat_natCast, List.getD_eq_getElem?_getD, List.getElem?_eq_getElem h]; rfl
theorem dropK (ks : List S41) (i : Nat) (h : i < ks.length) : ks.drop i = rd_T41 ks (i : Int) :: ks.drop (i + 1) := by
  rw [List.drop_eq_getElem_cons h, rd_T41, Int.toNat_natCast, List.getD_eq_getElem?_getD, List.getElem?_eq_getElem h]; rfl
theorem w64s (i : Nat) (h : i ≤ 100) : wrap64 ((i : Int) + 1) = ((i + 1 : Nat) : Int) := by unfold wrap64; omega
/-! sizes, with the texts as letters -/
theorem sumE {s A B : ByteArray} {i : Nat} (hs : s.size ≤ 20 + 281474976710700 * i) (hi : i ≤ 100) (hA : A.size ≤ 140737488355338) (hB : B.size ≤ 140737488355338) :
    A.size + B.size ≤ 9223372036854775807 ∧ s.size + (A ++ B).size ≤ 9223372036854775807 ∧ (s ++ (A ++ B)).size ≤ 20 + 281474976710700 * (i + 1) := by
  simp only [ByteArray.size_append]
  omega
theorem sumK {s A B C : ByteArray} {i : Nat} (hs : s.size ≤ 20 + 281474976710700 * i) (hi : i ≤ 100) (hA : A.size ≤ 140737488355338) (hB : B.size ≤ 10) (hC : C.size ≤ 140737488355328) :
    A.size + B.size ≤ 9223372036854775807 ∧ (A ++ B).size + C.size ≤ 9223372036854775807 ∧ s.size + ((A ++ B) ++ C).size ≤ 9223372036854775807 ∧ (s ++ ((A ++ B) ++ C)).size ≤ 20 + 281474976710700 * (i + 1) := by
  simp only [ByteArray.size_append]
  omega
theorem txt_le {t : ByteArray} (h : t.size ≤ 140737488355328) : (txt t).size ≤ 140737488355338 := by have := txt_size t; omega
theorem head_le (b : UInt8) (n : Int) : 1 + (nu n).size ≤ 9223372036854775807 ∧ ((⟨#[b]⟩ : ByteArray) ++ nu n).size ≤ 20 := by
  rw [ByteArray.size_append]
  have := nu_size n
  have h1 : (⟨#[b]⟩ : ByteArray).size = 1 := rfl
  omega
theorem u64_id {n : Int} (h : 0 ≤ n) (h1 : n < 18446744073709551616) : IntKind.u64.wrap n = n := wu64s h h1
/-! the program's bytes -/
theorem put_l0 (es : List S43) (h0 : es.length ≤ 100) (hz : ∀ i, i < es.length → szE (rd_T43 es (i : Int))) : ∀ (d i k : Nat) (s : ByteArray), i + d = es.length → d + 20 ≤ k → s.size ≤ 20 + 281474976710700 * i →
    node_put.l0 k s es (es.length : Int) (i : Int) = some (s ++ encEs (es.drop i)) := by
  intro d
  induction d with
  | zero =>
    intro i k s hi hk hs
    obtain ⟨k, rfl⟩ : ∃ m, k = m + 1 := ⟨k - 1, by omega⟩
    rw [node_put.l0, if_neg (by omega), List.drop_of_length_le (by omega), encEs, append_empty]
  | succ d ih =>
    intro i k s hi hk hs
    obtain ⟨k, rfl⟩ : ∃ m, k = m + 1 := ⟨k - 1, by omega⟩
    have hlt : i < es.length := by omega
    obtain ⟨z1, z2⟩ := hz i hlt
    have hd := dropE es i hlt
    obtain ⟨x, hx⟩ : ∃ x, rd_T43 es (i : Int) = x := ⟨_, rfl⟩
    rw [hx] at z1 z2 hd
    obtain ⟨e1, e2, e3⟩ := sumE hs (by omega) (txt_le z1) (txt_le z2)
    rw [node_put.l0, if_pos (by omega), if_pos (by omega), if_pos (by omega), hx, text_k _ z1 k (by omega), text_k _ z2 k (by omega)]
    simp only [obs]
    rw [if_pos e1, if_pos e2, w64s i (by omega), ih (i + 1) k _ (by omega) (by omega) e3, hd, encEs, encE, append_assoc]
theorem put_l1 (ks : List S41) (h0 : ks.length ≤ 100) (hz : ∀ i, i < ks.length → szK (rd_T41 ks (i : Int))) : ∀ (d i k : Nat) (s : ByteArray), i + d = ks.length → d + 20 ≤ k → s.size ≤ 20 + 281474976710700 * i →
    node_put.l1 k s ks (ks.length : Int) (i : Int) = some (s ++ encKs (ks.drop i)) := by
  intro d
  induction d with
  | zero =>
    intro i k s hi hk hs
    obtain ⟨k, rfl⟩ : ∃ m, k = m + 1 := ⟨k - 1, by omega⟩
    rw [node_put.l1, if_neg (by omega), List.drop_of_length_le (by omega), encKs, append_empty]
  | succ d ih =>
    intro i k s hi hk hs
    obtain ⟨k, rfl⟩ : ∃ m, k = m + 1 := ⟨k - 1, by omega⟩
    have hlt : i < ks.length := by omega
    obtain ⟨z1, z2, z3, z4⟩ := hz i hlt
    have hd := dropK ks i hlt
    obtain ⟨x, hx⟩ : ∃ x, rd_T41 ks (i : Int) = x := ⟨_, rfl⟩
    rw [hx] at z1 z2 z3 z4 hd
    obtain ⟨e1, e2, e3, e4⟩ := sumK hs (by omega) (txt_le z1) (nu_size x.f1.f0) z2
    rw [node_put.l1, if_pos (by omega), if_pos (by omega), if_pos (by omega), hx, text_k _ z1 k (by omega), u64_id z3 z4, num_some _ z3 z4 k (by omega)]
    simp only [obs]
    change (if (txt x.f0).size + (nu x.f1.f0).size ≤ _ then (if ((txt x.f0) ++ (nu x.f1.f0)).size + _ ≤ _ then (if _ + ((txt x.f0 ++ nu x.f1.f0) ++ x.f1.f1).size ≤ _ then _ else _) else _) else _) = _
    rw [if_pos e1, if_pos e2, if_pos e3, w64s i (by omega)]
    have := ih (i + 1) k _ (by omega) (by omega) e4
    rw [hd, encKs, encK]
    refine Eq.trans ?_ (this.trans (by rw [append_assoc]))
    rfl
theorem put_k (es : List S43) (ks : List S41) (h : szN es ks) (k : Nat) (hk : 200 ≤ k) : node_put.f k es ks = some (bytesN es ks) := by
  obtain ⟨h0, h1, h2, h3⟩ := h
  unfold node_put.f bytesN
  by_cases c : (es.length : Int) > 0
  · have hh := head_le 76 (es.length : Int)
    have hl := put_l0 es h0 h2 es.length 0 k _ (by omega) (by omega) hh.2
    rw [List.drop_zero] at hl
    rw [if_pos c, if_pos c, if_pos (by omega), num_some _ (by omega) (by omega) k (by omega)]
    simp only [obs]
    change (if 1 + (nu (es.length : Int)).size ≤ _ then _ else _) = _
    rw [if_pos hh.1]
    exact hl
  · have hh := head_le 73 (ks.length : Int)
    have hl := put_l1 ks h1 h3 ks.length 0 k _ (by omega) (by omega) hh.2
    rw [List.drop_zero] at hl
    rw [if_neg c, if_neg c, if_pos (by omega), num_some _ (by omega) (by omega) k (by omega)]
    simp only [obs]
    change (if 1 + (nu (ks.length : Int)).size ≤ _ then _ else _) = _
    rw [if_pos hh.1]
    exact hl
/-! the document's bytes -/
theorem rput_l0 (es : List S43) (ks : List S41) (h0 : es.length ≤ 100) (hz : ∀ i, i < es.length → szE (rd_T43 es (i : Int))) : ∀ (d i k : Nat) (s : ByteArray), i + d = es.length → d + 20 ≤ k → s.size ≤ 20 + 281474976710700 * i →
    lodestoneref17_Bytes.l0 k s (i : Int) es ks = some (s ++ encEs (es.drop i)) := by
  intro d
  induction d with
  | zero =>
    intro i k s hi hk hs
    obtain ⟨k, rfl⟩ : ∃ m, k = m + 1 := ⟨k - 1, by omega⟩
    rw [lodestoneref17_Bytes.l0, if_neg (by omega), List.drop_of_length_le (by omega), encEs, append_empty]
  | succ d ih =>
    intro i k s hi hk hs
    obtain ⟨k, rfl⟩ : ∃ m, k = m + 1 := ⟨k - 1, by omega⟩
    have hlt : i < es.length := by omega
    obtain ⟨z1, z2⟩ := hz i hlt
    have hd := dropE es i hlt
    obtain ⟨x, hx⟩ : ∃ x, rd_T43 es (i : Int) = x := ⟨_, rfl⟩
    rw [hx] at z1 z2 hd
    obtain ⟨e1, e2, e3⟩ := sumE hs (by omega) (txt_le z1) (txt_le z2)
    rw [lodestoneref17_Bytes.l0, if_pos (by omega), if_pos (by omega), hx, rtext_k _ z1 k (by omega), rtext_k _ z2 k (by omega)]
    simp only [obs]
    rw [if_pos e1, if_pos e2, w64s i (by omega), ih (i + 1) k _ (by omega) (by omega) e3, hd, encEs, encE, append_assoc]
theorem rput_l1 (es : List S43) (ks : List S41) (h0 : ks.length ≤ 100) (hz : ∀ i, i < ks.length → szK (rd_T41 ks (i : Int))) : ∀ (d i k : Nat) (s : ByteArray), i + d = ks.length → d + 20 ≤ k → s.size ≤ 20 + 281474976710700 * i →
    lodestoneref17_Bytes.l1 k s (i : Int) es ks = some (s ++ encKs (ks.drop i)) := by
  intro d
  induction d with
  | zero =>
    intro i k s hi hk hs
    obtain ⟨k, rfl⟩ : ∃ m, k = m + 1 := ⟨k - 1, by omega⟩
    rw [lodestoneref17_Bytes.l1, if_neg (by omega), List.drop_of_length_le (by omega), encKs, append_empty]
  | succ d ih =>
    intro i k s hi hk hs
    obtain ⟨k, rfl⟩ : ∃ m, k = m + 1 := ⟨k - 1, by omega⟩
    have hlt : i < ks.length := by omega
    obtain ⟨z1, z2, z3, z4⟩ := hz i hlt
    have hd := dropK ks i hlt
    obtain ⟨x, hx⟩ : ∃ x, rd_T41 ks (i : Int) = x := ⟨_, rfl⟩
    rw [hx] at z1 z2 z3 z4 hd
    obtain ⟨e1, e2, e3, e4⟩ := sumK hs (by omega) (txt_le z1) (nu_size x.f1.f0) z2
    rw [lodestoneref17_Bytes.l1, if_pos (by omega), if_pos (by omega), hx, rtext_k _ z1 k (by omega), u64_id z3 z4, ref_num_some _ z3 z4 k (by omega)]
    simp only [obs]
    change (if (txt x.f0).size + (nu x.f1.f0).size ≤ _ then (if ((txt x.f0) ++ (nu x.f1.f0)).size + _ ≤ _ then (if _ + ((txt x.f0 ++ nu x.f1.f0) ++ x.f1.f1).size ≤ _ then _ else _) else _) else _) = _
    rw [if_pos e1, if_pos e2, if_pos e3, w64s i (by omega)]
    have := ih (i + 1) k _ (by omega) (by omega) e4
    rw [hd, encKs, encK]
    refine Eq.trans ?_ (this.trans (by rw [append_assoc]))
    rfl
theorem rput_k (es : List S43) (ks : List S41) (h : szN es ks) (k : Nat) (hk : 200 ≤ k) : lodestoneref17_Bytes.f k es ks = some (bytesN es ks) := by
  obtain ⟨h0, h1, h2, h3⟩ := h
  unfold lodestoneref17_Bytes.f bytesN
  by_cases c : (es.length : Int) > 0
  · have hh := head_le 76 (es.length : Int)
    have hl := rput_l0 es ks h0 h2 es.length 0 k _ (by omega) (by omega) hh.2
    rw [List.drop_zero] at hl
    rw [if_pos c, if_pos c, if_pos (by omega), ref_num_some _ (by omega) (by omega) k (by omega)]
    simp only [obs]
    change (if 1 + (nu (es.length : Int)).size ≤ _ then _ else _) = _
    rw [if_pos hh.1]
    exact hl
  · have hh := head_le 73 (ks.length : Int)
    have hl := rput_l1 es ks h1 h3 ks.length 0 k _ (by omega) (by omega) hh.2
    rw [List.drop_zero] at hl
    rw [if_neg c, if_neg c, if_pos (by omega), ref_num_some _ (by omega) (by omega) k (by omega)]
    simp only [obs]
    change (if 1 + (nu (ks.length : Int)).size ≤ _ then _ else _) = _
    rw [if_pos hh.1]
    exact hl
/-! read again -/
theorem text_back (t rest : ByteArray) (most : Int) (ht : (t.size : Int) ≤ most) (h0 : 0 ≤ most) (h16 : most ≤ 65536) (k : Nat) (hk : 30 ≤ k) : code_Reader_Text.f k (txt t ++ rest) 0 most = some (t, rest, 0) := by
  unfold code_Reader_Text.f
  have e : mn (mx most 0) 65536 = most := by unfold mn mx; (repeat' split) <;> omega
  rw [e, txt, append_assoc, num_any _ most (by omega) (by omega) _ k hk, if_pos ht]
  simp only [obs]
  rw [w64 (by omega) (by omega), bytes_some _ _ _ rfl]
  rfl
theorem num_back (n most : Int) (h0 : 0 ≤ n) (h1 : n ≤ most) (h2 : most < 18446744073709551616) (rest : ByteArray) (k : Nat) (hk : 30 ≤ k) : code_Reader_Num.f k (nu n ++ rest) 0 most = some (n, rest, 0) := by
  rw [nu, num_any n most h0 (by omega) rest k hk, if_pos h1]
theorem end_em : code_Reader_End.f em 0 = some (0, em, 0) := by decide +kernel
theorem L_toList : (⟨#[76]⟩ : ByteArray).toList = ([76] : List UInt8) := (toList_data _).trans rfl
theorem I_toList : (⟨#[73]⟩ : ByteArray).toList = ([73] : List UInt8) := (toList_data _).trans rfl
theorem get_e (s : ByteArray) (hs : ¬ (s.size : Int) > 462) (es : List S43) (hm : okN es []) (h0 : es.length ≤ 100) : ∀ (d i k : Nat), i + d = es.length → d + 60 ≤ k →
    node_Get.l0 k s (⟨#[76]⟩ : ByteArray) (es.length : Int) (i : Int) (encEs (es.drop i)) 0 (es.take i) [] = some (es, [], 0) := by
  intro d
  induction d with
  | zero =>
    intro i k hi hk
    obtain ⟨k, rfl⟩ : ∃ m, k = m + 1 := ⟨k - 1, by omega⟩
    rw [node_Get.l0, if_neg (by omega), List.drop_of_length_le (by omega), List.take_of_length_le (by omega), encEs, end_em]
    simp only [obs]
    unfold node_May.f
    rw [if_pos trivial, if_neg hs, if_pos ⟨h0, by decide⟩, (may_iff es []).mpr hm]
    rfl
  | succ d ih =>
    intro i k hi hk
    obtain ⟨k, rfl⟩ : ∃ m, k = m + 1 := ⟨k - 1, by omega⟩
    have hlt : i < es.length := by omega
    have hd := dropE es i hlt
    have hk96 : (rd_T43 es (i : Int)).f0.size ≤ 96 := by
      have := (hm.1 i (by rw [keysL_length]; omega)).1
      have e : ky (keysL es []) i = (rd_T43 es (i : Int)).f0 := by
        rw [ky, keysL, List.map_nil, List.append_nil, rd_T43, Int.toNat_natCast, List.getD_eq_getElem?_getD, List.getD_eq_getElem?_getD, List.getElem?_map, List.getElem?_eq_getElem hlt]; rfl
      rwa [e] at this
    have hv80 := (hm.2.1 i hlt).2
    obtain ⟨x, hx⟩ : ∃ x, rd_T43 es (i : Int) = x := ⟨_, rfl⟩
    have ht : es.take i ++ [x] = es.take (i + 1) := by
      rw [← hx, List.take_succ_eq_append_getElem hlt, rd_T43, Int.toNat_natCast, List.getD_eq_getElem?_getD, List.getElem?_eq_getElem hlt]; rfl
    rw [hx] at hd hk96 hv80
    have htl : (es.take i).length < 4398046511104 := by rw [List.length_take]; omega
    rw [node_Get.l0, if_pos (by omega), hd, encEs, encE, append_assoc, text_back _ _ 96 (by omega) (by omega) (by omega) k (by omega)]
    simp only [obs]
    rw [if_pos L_toList, text_back _ _ 80 (by omega) (by omega) (by omega) k (by omega)]
    simp only [obs]
    rw [if_pos htl, w64s i (by omega)]
    change node_Get.l0 k s _ _ _ _ _ (es.take i ++ [x]) _ = _
    rw [ht]
    exact ih (i + 1) k (by omega) (by omega)
theorem get_i (s : ByteArray) (hs : ¬ (s.size : Int) > 462) (ks : List S41) (hm : okN [] ks) (h0 : ks.length ≤ 100) : ∀ (d i k : Nat), i + d = ks.length → d + 60 ≤ k →
    node_Get.l0 k s (⟨#[73]⟩ : ByteArray) (ks.length : Int) (i : Int) (encKs (ks.drop i)) 0 [] (ks.take i) = some ([], ks, 0) := by
  intro d
  induction d with
  | zero =>
    intro i k hi hk
    obtain ⟨k, rfl⟩ : ∃ m, k = m + 1 := ⟨k - 1, by omega⟩
    rw [node_Get.l0, if_neg (by omega), List.drop_of_length_le (by omega), List.take_of_length_le (by omega), encKs, end_em]
    simp only [obs]
    unfold node_May.f
    rw [if_pos trivial, if_neg hs, if_pos ⟨by decide, h0⟩, (may_iff [] ks).mpr hm]
    rfl
  | succ d ih =>
    intro i k hi hk
    obtain ⟨k, rfl⟩ : ∃ m, k = m + 1 := ⟨k - 1, by omega⟩
    have hlt : i < ks.length := by omega
    have hd := dropK ks i hlt
    have hk96 : (rd_T41 ks (i : Int)).f0.size ≤ 96 := by
      have := (hm.1 i (by rw [keysL_length]; show i < 0 + ks.length; omega)).1
      have e : ky (keysL [] ks) i = (rd_T41 ks (i : Int)).f0 := by
        rw [ky, keysL, List.map_nil, List.nil_append, rd_T41, Int.toNat_natCast, List.getD_eq_getElem?_getD, List.getD_eq_getElem?_getD, List.getElem?_map, List.getElem?_eq_getElem hlt]; rfl
      rwa [e] at this
    obtain ⟨p0, p1, p2⟩ := hm.2.2.1 i hlt
    obtain ⟨x, hx⟩ : ∃ x, rd_T41 ks (i : Int) = x := ⟨_, rfl⟩
    have ht : ks.take i ++ [x] = ks.take (i + 1) := by
      rw [← hx, List.take_succ_eq_append_getElem hlt, rd_T41, Int.toNat_natCast, List.getD_eq_getElem?_getD, List.getElem?_eq_getElem hlt]; rfl
    rw [hx] at hd hk96 p0 p1 p2
    have htl : (ks.take i).length < 3518437208883 := by rw [List.length_take]; omega
    rw [node_Get.l0, if_pos (by omega), hd, encKs, encK, append_assoc, append_assoc, text_back _ _ 96 (by omega) (by omega) (by omega) k (by omega)]
    simp only [obs]
    rw [if_neg (by rw [I_toList]; decide), if_pos I_toList, num_back _ 4095 p0 (by omega) (by omega) _ k (by omega)]
    simp only [obs]
    rw [bytes_some _ _ 32 (by omega)]
    simp only [obs]
    rw [if_pos htl, w64s i (by omega), w64 (by omega) (by omega)]
    change node_Get.l0 k s _ _ _ _ _ _ (ks.take i ++ [x]) = _
    rw [ht]
    exact ih (i + 1) k (by omega) (by omega)
theorem get_k (es : List S43) (ks : List S41) (hm : okN es ks) (h0 : es.length ≤ 100) (h1 : ks.length ≤ 100) (hs : ((bytesN es ks).size : Int) ≤ 462) (k : Nat) (hk : 300 ≤ k) : node_Get.f k (bytesN es ks) = some (es, ks, 0) := by
  obtain ⟨s, hss⟩ : ∃ s, bytesN es ks = s := ⟨_, rfl⟩
  have hs2 : ¬ (s.size : Int) > 462 := by rw [← hss]; omega
  unfold node_Get.f code_Read.f
  simp only [obs]
  by_cases c : (es.length : Int) > 0
  · have e : ks = [] := List.eq_nil_of_length_eq_zero (Decidable.byContradiction fun h => by have := hm.2.2.2.mpr h; omega)
    subst e
    have e2 : bytesN es [] = (⟨#[76]⟩ : ByteArray) ++ (nu (es.length : Int) ++ encEs es) := by unfold bytesN; rw [if_pos c, append_assoc]
    rw [hss]
    rw [show code_Reader_Bytes.f s 0 1 = some ((⟨#[76]⟩ : ByteArray), nu (es.length : Int) ++ encEs es, 0) by rw [← hss, e2]; exact bytes_some _ _ 1 rfl]
    simp only [obs]
    rw [num_back _ 462 (by omega) (by omega) (by omega) _ k (by omega)]
    simp only [obs]
    rw [w64 (by omega) (by omega)]
    have := get_e s hs2 es hm h0 es.length 0 k (by omega) (by omega)
    rw [List.drop_zero, List.take_zero] at this
    exact this
  · have e : es = [] := List.eq_nil_of_length_eq_zero (by omega)
    subst e
    have e2 : bytesN [] ks = (⟨#[73]⟩ : ByteArray) ++ (nu (ks.length : Int) ++ encKs ks) := by unfold bytesN; rw [if_neg c, append_assoc]
    rw [hss]
    rw [show code_Reader_Bytes.f s 0 1 = some ((⟨#[73]⟩ : ByteArray), nu (ks.length : Int) ++ encKs ks, 0) by rw [← hss, e2]; exact bytes_some _ _ 1 rfl]
    simp only [obs]
    rw [num_back _ 462 (by omega) (by omega) (by omega) _ k (by omega)]
    simp only [obs]
    rw [w64 (by omega) (by omega)]
    have := get_i s hs2 ks hm h1 ks.length 0 k (by omega) (by omega)
    rw [List.drop_zero, List.take_zero] at this
    exact this
theorem get_em (k : Nat) (hk : 40 ≤ k) : node_Get.f k em = some ([], [], 2) := by
  obtain ⟨k, rfl⟩ : ∃ m, k = m + 2 := ⟨k - 2, by omega⟩
  have hb1 : code_Reader_Bytes.f em 0 1 = some (em, em, 2) := by decide +kernel
  have hb2 : code_Reader_Bytes.f em 2 1 = some (em, em, 2) := by decide +kernel
  have hn : code_Reader_Num.f (k + 2) em 2 462 = some (0, em, 2) := by
    unfold code_Reader_Num.f
    rw [code_Reader_Num.l0, if_pos (by decide), hb2]
    simp only [obs]
    rw [if_pos em_nil]
  have he : code_Reader_End.f em 2 = some (2, em, 2) := by decide +kernel
  have hw : wrap64 0 = 0 := w64 (by decide) (by decide)
  unfold node_Get.f code_Read.f
  simp only [obs]
  rw [hb1]
  simp only [obs]
  rw [hn]
  simp only [obs]
  rw [hw, node_Get.l0, if_neg (by decide), he]
  rfl
/-! the same -/
theorem same_l1 (es : List S43) (ks : List S41) (h1 : ks.length ≤ 100) : ∀ (d i k : Nat), i + d = ks.length → d + 1 ≤ k → lodestoneref17_Same.l1 k (i : Int) es ks es ks = some true := by
  intro d
  induction d with
  | zero =>
    intro i k hi hk
    obtain ⟨k, rfl⟩ : ∃ m, k = m + 1 := ⟨k - 1, by omega⟩
    rw [lodestoneref17_Same.l1, if_neg (by omega)]
  | succ d ih =>
    intro i k hi hk
    obtain ⟨k, rfl⟩ : ∃ m, k = m + 1 := ⟨k - 1, by omega⟩
    rw [lodestoneref17_Same.l1, if_pos (by omega), if_pos (by omega), if_pos (by omega), beq_self_eq_true, beq_self_eq_true, beq_self_eq_true, if_neg (by decide), w64s i (by omega)]
    exact ih (i + 1) k (by omega) (by omega)
theorem same_l0 (es : List S43) (ks : List S41) (h0 : es.length ≤ 100) (h1 : ks.length ≤ 100) : ∀ (d i k : Nat), i + d = es.length → d + 110 ≤ k → lodestoneref17_Same.l0 k (i : Int) es ks es ks = some true := by
  intro d
  induction d with
  | zero =>
    intro i k hi hk
    obtain ⟨k, rfl⟩ : ∃ m, k = m + 1 := ⟨k - 1, by omega⟩
    rw [lodestoneref17_Same.l0, if_neg (by omega)]
    exact same_l1 es ks h1 ks.length 0 k (by omega) (by omega)
  | succ d ih =>
    intro i k hi hk
    obtain ⟨k, rfl⟩ : ∃ m, k = m + 1 := ⟨k - 1, by omega⟩
    rw [lodestoneref17_Same.l0, if_pos (by omega), if_pos (by omega), if_pos (by omega), beq_self_eq_true, beq_self_eq_true, if_neg (by decide), w64s i (by omega)]
    exact ih (i + 1) k (by omega) (by omega)
theorem same_k (es : List S43) (ks : List S41) (h0 : es.length ≤ 100) (h1 : ks.length ≤ 100) (k : Nat) (hk : 300 ≤ k) : lodestoneref17_Same.f k es ks es ks = some true := by
  obtain ⟨k, rfl⟩ : ∃ m, k = m + 1 := ⟨k - 1, by omega⟩
  unfold lodestoneref17_Same.f
  rw [if_pos rfl, lodestoneref17_Same.j0, bne_self_eq_false, if_neg (by decide)]
  exact same_l0 es ks h0 h1 es.length 0 k (by omega) (by omega)
/-! awake, and the law -/
theorem may_f (es : List S43) (ks : List S41) (h : szN es ks) : node_May.f es ks = some (mayB es ks) := by unfold node_May.f; rw [if_pos ⟨h.1, h.2.1⟩]
def aw : List S43 := [(⟨(⟨#[97]⟩ : ByteArray), (⟨#[98]⟩ : ByteArray)⟩ : S43)]
theorem aw_sz : szN aw [] := ⟨by decide, by decide, fun i hi => by
  have : i = 0 := by unfold aw at hi; simp at hi; omega
  subst this; exact ⟨by decide, by decide⟩, fun i hi => absurd hi (by simp)⟩
theorem aw_ok : okN aw [] := ⟨fun i hi => by
  have : i = 0 := by unfold aw keysL at hi; simp at hi; omega
  subst this; exact ⟨by decide, fun h => absurd h (by decide)⟩, fun i hi => by
  have : i = 0 := by unfold aw at hi; simp at hi; omega
  subst this; exact ⟨by show (⟨#[97]⟩ : ByteArray).toList ≠ []; rw [toList_data]; decide, by decide⟩, fun i hi => absurd hi (by simp), by decide⟩
theorem aw_len : ((bytesN aw []).size : Int) ≤ 462 := by decide +kernel
theorem awake_k (k : Nat) (hk : 1000 ≤ k) : lodestonelaw17_awake.f k = some true := by
  have hg := get_k aw [] aw_ok (by decide) (by decide) aw_len k (by omega)
  have hp : node_Put.f k aw [] = some (bytesN aw []) := by
    unfold node_Put.f
    rw [may_f aw [] aw_sz, (may_iff aw []).mpr aw_ok]
    simp only [obs]
    rw [if_pos trivial, put_k aw [] aw_sz k (by omega)]
    simp only [obs]
    rw [if_pos aw_len]
  unfold lodestonelaw17_awake.f
  change ((node_Put.f k aw []).bind _) = _
  rw [hp]
  simp only [obs]
  rw [hg]
  simp only [obs]
  rw [if_pos trivial, if_pos (by decide), if_pos (by decide)]
  congr 1
  show ((⟨#[97]⟩ : ByteArray).toList == ([97] : List UInt8) && ((⟨#[98]⟩ : ByteArray).toList == ([98] : List UInt8))) = true
  rw [toList_data, toList_data]
  rfl
theorem bytes_ne (es : List S43) (ks : List S41) : (bytesN es ks).toList ≠ [] := fun e => by
  have h : (bytesN es ks).size = 0 := by rw [← data_len, ← toList_data, e]; rfl
  unfold bytesN at h
  split at h <;>
  · rw [ByteArray.size_append, ByteArray.size_append] at h
    have h1 : ∀ b : UInt8, (⟨#[b]⟩ : ByteArray).size = 1 := fun b => rfl
    rw [h1] at h
    omega
theorem law_k (es : List S43) (ks : List S41) (h : szN es ks) (k : Nat) (hk : 1010 ≤ k) : lodestonelaw17_NodePuts.f k es ks = some true := by
  obtain ⟨k, rfl⟩ : ∃ m, k = m + 2 := ⟨k - 2, by omega⟩
  have hput := put_k es ks h
  have hmf := may_f es ks h
  have hrm := rmay_k es ks h.1 h.2.1
  have hrb := rput_k es ks h
  have hsz : ∀ k, 200 ≤ k → node_Size.f k es ks = some ((bytesN es ks).size : Int) := fun k hk => by unfold node_Size.f; rw [hput k hk]; rfl
  obtain ⟨B, hB⟩ : ∃ B, bytesN es ks = B := ⟨_, rfl⟩
  have hne := bytes_ne es ks
  have hget := get_k es ks
  rw [hB] at hput hrb hsz hne hget
  -- what is put
  obtain ⟨P, hP⟩ : ∃ P, (if mayB es ks = true then (if (B.size : Int) ≤ 462 then B else em) else em) = P := ⟨_, rfl⟩
  have hnp : node_Put.f (k + 2) es ks = some P := by
    unfold node_Put.f
    rw [hmf]
    simp only [obs]
    by_cases c : mayB es ks = true
    · rw [if_pos c] at hP
      rw [if_pos c, hput (k + 2) (by omega)]
      simp only [obs]
      by_cases c2 : (B.size : Int) ≤ 462
      · rw [if_pos c2] at hP ⊢; rw [hP]
      · rw [if_neg c2] at hP ⊢; exact congrArg some hP
    · rw [if_neg c] at hP ⊢; exact congrArg some hP
  have fin : ∀ W : ByteArray, W = P → lodestonelaw17_NodePuts.j1 (k + 1) P W es ks = some true := fun W hW => by
    subst hW
    rw [lodestonelaw17_NodePuts.j1]
    by_cases c : mayB es ks = true ∧ (B.size : Int) ≤ 462
    · have hPB : W = B := by rw [← hP, if_pos c.1, if_pos c.2]
      subst hPB
      rw [hget ((may_iff es ks).mp c.1) h.1 h.2.1 c.2 k (by omega), awake_k k (by omega)]
      simp only [obs]
      rw [if_pos trivial, if_pos trivial, hmf, hrm k (by omega)]
      simp only [obs]
      rw [bne_self_eq_false, if_neg (by decide), hsz k (by omega), hrb k (by omega)]
      simp only [obs]
      rw [if_pos trivial, if_neg hne, if_pos trivial, same_k es ks h.1 h.2.1 k (by omega)]
      rfl
    · have hPB : W = em := by
        rw [← hP]
        by_cases c1 : mayB es ks = true
        · rw [if_pos c1, if_neg (fun c2 => c ⟨c1, c2⟩)]
        · rw [if_neg c1]
      subst hPB
      rw [get_em k (by omega), awake_k k (by omega)]
      simp only [obs]
      rw [if_pos trivial, if_pos trivial, hmf, hrm k (by omega)]
      simp only [obs]
      rw [bne_self_eq_false, if_neg (by decide), hsz k (by omega), hrb k (by omega)]
      simp only [obs]
      rw [if_pos trivial, if_pos em_nil]
      rfl
  unfold lodestonelaw17_NodePuts.f
  rw [hnp, hrb (k + 2) (by omega), hrm (k + 2) (by omega)]
  simp only [obs]
  by_cases c : mayB es ks = true
  · rw [if_pos c] at hP
    rw [if_pos c, lodestonelaw17_NodePuts.j0]
    by_cases c2 : (B.size : Int) ≤ 462
    · rw [if_pos c2] at hP
      rw [if_pos (decide_eq_true c2)]
      exact fin B hP
    · rw [if_neg c2] at hP
      rw [if_neg (by rw [decide_eq_false c2]; decide)]
      exact fin em hP
  · rw [if_neg c] at hP
    rw [if_neg c, lodestonelaw17_NodePuts.j0, if_neg (by decide)]
    exact fin em hP
end Go.Proofs.Ytcdnmpajobhdcaa.Pure
