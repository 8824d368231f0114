/- Plain laws of records: what Put writes, Get reads again; records that may not be. -/
import Derived.Test.YtlahimndndlbiaaRWalSplits
import Derived.Test.YtlahimndndlbiaaWlM
namespace Go.Proofs.Ytlahimndndlbiaa.QWalSplits
open Go.RowKit Go.Proofs.Ytlahimndndlbiaa.PWalSplits Go.Proofs.YtlahimndndlbiaaW.PrintWords Go.Proofs.YtlahimndndlbiaaW.PrintLast Go.Proofs.YtlahimndndlbiaaW.PrintMore Go.Proofs.Ytlahimndndlbiaa.XB Go.Proofs.Ytlahimndndlbiaa.RWalSplits Go.Proofs.Ytlahimndndlbiaa.Wl
set_option linter.unusedVariables false
set_option linter.unusedSimpArgs false
abbrev em : ByteArray := ⟨#[]⟩
theorem em_nil : em.toList = [] := (toList_data em).trans rfl
theorem nil_em {s : ByteArray} (h : s.toList = []) : s = em := toList_inj.mp (h.trans em_nil.symm)
/-- a change that may be -/
def okC (c : S33) : Prop := c.f0 ≠ em ∧ c.f0.size ≤ 96 ∧ c.f1.size ≤ 4096 ∧ (c.f2 = true → c.f1 = em)
def okL (l : List S33) : Prop := 1 ≤ l.length ∧ l.length ≤ 256 ∧ ∀ c ∈ l, okC c
theorem bad_iff (c : S33) : badB c.f0 c.f1 c.f2 = false ↔ okC c := by
  have h := badB_iff c.f0 c.f1 c.f2
  rw [← Bool.not_eq_true, h, badP, okC]
  constructor
  · intro h
    simp only [not_or, Classical.not_and_iff_not_or_not] at h
    refine ⟨fun e => h.1 (by rw [e]; exact em_nil), by omega, by omega, fun e => ?_⟩
    rcases h.2.2.2 with h1 | h1
    · exact absurd e h1
    · exact nil_em (Classical.not_not.mp h1)
  · rintro ⟨h1, h2, h3, h4⟩ h
    rcases h with h | h | h | ⟨h, h5⟩
    · exact h1 (nil_em h)
    · omega
    · omega
    · exact h5 (by rw [h4 h]; exact em_nil)
theorem rd_get (l : List S33) (i : Nat) (hi : i < l.length) : rd_T33 l (i : Int) = l[i] := by
  rw [rd_T33, Int.toNat_natCast, List.getD_eq_getElem?_getD, List.getElem?_eq_getElem hi]
  rfl
theorem may_some (l : List S33) (hl : l.length ≤ 9223372036854775807) : ∃ b, wal_May.f l = some b ∧ (b = true ↔ okL l) := by
  unfold wal_May.f
  rw [if_pos hl]
  refine ⟨_, rfl, ?_⟩
  unfold mayB
  simp only [Bool.and_eq_true, decide_eq_true_eq, Bool.not_eq_true', decide_eq_false_iff_not]
  have key : (¬ 0 ≤ idx l.length (fun i => (rd_T33 l (i : Int)).f0) (fun i => (rd_T33 l (i : Int)).f1) (fun i => (rd_T33 l (i : Int)).f2)) ↔ ∀ c ∈ l, okC c := by
    constructor
    · intro h c hc
      obtain ⟨i, hi, rfl⟩ := List.mem_iff_getElem.mp hc
      refine (bad_iff _).mp ?_
      cases hb : badB l[i].f0 l[i].f1 l[i].f2 with
      | false => rfl
      | true =>
        refine absurd ?_ h
        unfold idx
        cases hf : (List.range l.length).find? (badAt (fun i => (rd_T33 l (i : Int)).f0) (fun i => (rd_T33 l (i : Int)).f1) (fun i => (rd_T33 l (i : Int)).f2)) with
        | some j => exact Int.natCast_nonneg _
        | none =>
          have := List.find?_eq_none.mp hf i (List.mem_range.mpr hi)
          refine absurd ?_ this
          show badB (rd_T33 l (i : Int)).f0 (rd_T33 l (i : Int)).f1 (rd_T33 l (i : Int)).f2 = true
          rw [rd_get l i hi, hb]
    · intro h
      rw [idx_none fun q hq => ?_]
      · decide
      · show badB (rd_T33 l (q : Int)).f0 (rd_T33 l (q : Int)).f1 (rd_T33 l (q : Int)).f2 = false
        rw [rd_get l q hq]
        exact (bad_iff _).mpr (h _ (List.getElem_mem hq))
  rw [key]
  rfl
/-- a text, a truth as bytes -/
def txt (t : ByteArray) : ByteArray := strOfNums (leb 10 (t.size : Int)) ++ t
def tru (b : Bool) : ByteArray := if b = true then (⟨#[1]⟩ : ByteArray) else (⟨#[0]⟩ : ByteArray)
theorem tru_size (b : Bool) : (tru b).size = 1 := by cases b <;> rfl
theorem txt_size (t : ByteArray) : (txt t).size ≤ 10 + t.size := by
  rw [txt, ByteArray.size_append, strOfNums_size]
  have := leb_length 10 (t.size : Int)
  omega
theorem bool_some (b : Bool) : code_Bool.f b = some (tru b) := by cases b <;> rfl
theorem text_k (t : ByteArray) (ht : t.size ≤ 140737488351232) (k : Nat) (hk : 10 ≤ k) : code_Text.f k t = some (txt t) := text_some t ht k hk
/-- a change as bytes; changes as bytes -/
def enc (c : S33) : ByteArray := (tru c.f2 ++ txt c.f0) ++ (if c.f2 = true then em else txt c.f1)
def encL : List S33 → ByteArray
  | [] => em
  | c :: l => enc c ++ encL l
theorem enc_size (c : S33) (h : okC c) : (enc c).size ≤ 4300 := by
  rw [enc, ByteArray.size_append, ByteArray.size_append, tru_size]
  have h1 := txt_size c.f0
  have h2 := txt_size c.f1
  have h3 := h.2.1
  have h4 := h.2.2.1
  have h5 : em.size = 0 := rfl
  split <;> omega
def rec_ (l : List S33) : ByteArray := strOfNums (leb 10 (l.length : Int)) ++ encL l
def kept (s : ByteArray) : ByteArray := if (s.size : Int) > 16384 then em else s
theorem drop_cons (l : List S33) (i : Nat) (hi : i < l.length) : l.drop i = l[i] :: l.drop (i + 1) := List.drop_eq_getElem_cons hi
theorem put_step (l : List S33) (i k : Nat) (s A B D : ByteArray) (hlt : i < l.length) (hb : code_Bool.f (rd_T33 l (i : Int)).f2 = some A) (hk : code_Text.f k (rd_T33 l (i : Int)).f0 = some B) (hv : code_Text.f k (rd_T33 l (i : Int)).f1 = some D)
    (hA : A.size = 1) (hB : B.size ≤ 200) (hD : D.size ≤ 5000) (hs : s.size ≤ 4000000) (hl : l.length ≤ 1000) :
    wal_Put.l0 (k + 1) s l (l.length : Int) (i : Int) = wal_Put.l0 k (s ++ ((A ++ B) ++ (if (rd_T33 l (i : Int)).f2 = true then em else D))) l (l.length : Int) ((i + 1 : Nat) : Int) := by
  obtain ⟨n, hn⟩ : ∃ n, l.length = n := ⟨_, rfl⟩
  have e7 : (A ++ B).size = A.size + B.size := ByteArray.size_append
  have e8 : (s ++ (A ++ B)).size = s.size + (A.size + B.size) := by rw [ByteArray.size_append, e7]
  have hw : wrap64 ((i : Int) + 1) = ((i + 1 : Nat) : Int) := by unfold wrap64; omega
  rw [wal_Put.l0, hn, if_pos (by omega), if_pos (by omega), if_pos (by omega), hb, Option.bind_some, hk, Option.bind_some, if_pos (by omega), if_pos (by omega)]
  by_cases g : (rd_T33 l (i : Int)).f2 = true
  · rw [if_pos g, if_pos g, hw, append_empty]
  · rw [if_neg g, if_neg g, hv, Option.bind_some, if_pos (by omega), hw, append_assoc]
theorem enc_step (c : S33) (hc : okC c) (k : Nat) (hk : 10 ≤ k) : ∃ A B D : ByteArray, code_Bool.f c.f2 = some A ∧ code_Text.f k c.f0 = some B ∧ code_Text.f k c.f1 = some D ∧ A.size = 1 ∧ B.size ≤ 200 ∧ D.size ≤ 5000 ∧ enc c = (A ++ B) ++ (if c.f2 = true then em else D) :=
  ⟨tru c.f2, txt c.f0, txt c.f1, bool_some _, text_k _ (Nat.le_trans hc.2.1 (by decide)) k hk, text_k _ (Nat.le_trans hc.2.2.1 (by decide)) k hk, tru_size _, Nat.le_trans (txt_size _) (by have := hc.2.1; omega), Nat.le_trans (txt_size _) (by have := hc.2.2.1; omega), rfl⟩
theorem put_loop (l : List S33) (hl : okL l) : ∀ (d i k : Nat) (s : ByteArray), i + d = l.length → d + 12 ≤ k → s.size ≤ 10 + 4300 * i →
    wal_Put.l0 k s l (l.length : Int) (i : Int) = some (kept (s ++ encL (l.drop i))) := by
  intro d
  induction d with
  | zero =>
    intro i k s hi hk hs
    obtain ⟨k, rfl⟩ : ∃ m, k = m + 1 := ⟨k - 1, by omega⟩
    rw [wal_Put.l0, if_neg (by omega), List.drop_of_length_le (by omega)]
    show _ = some (kept (s ++ em))
    rw [append_empty, kept]
    by_cases c : (s.size : Int) > 16384
    · rw [if_pos c, if_pos c]
    · rw [if_neg c, if_neg c]
  | succ d ih =>
    intro i k s hi hk hs
    obtain ⟨k, rfl⟩ : ∃ m, k = m + 1 := ⟨k - 1, by omega⟩
    have hlt : i < l.length := by omega
    have h256 := hl.2.1
    obtain ⟨c, hcd⟩ : ∃ c, l[i] = c := ⟨_, rfl⟩
    have hc : okC c := by rw [← hcd]; exact hl.2.2 l[i] (List.getElem_mem hlt)
    have hr : rd_T33 l (i : Int) = c := (rd_get l i hlt).trans hcd
    have hd : l.drop i = c :: l.drop (i + 1) := by rw [drop_cons l i hlt, hcd]
    have e1 := enc_size _ hc
    obtain ⟨E, hE⟩ : ∃ E, enc c = E := ⟨_, rfl⟩
    rw [hE] at e1
    have h2 : wal_Put.l0 (k + 1) s l (l.length : Int) (i : Int) = wal_Put.l0 k (s ++ E) l (l.length : Int) ((i + 1 : Nat) : Int) := by
      obtain ⟨A, B, D, h1, h2, h3, h4, h5, h6, h7⟩ := enc_step c hc k (by omega)
      rw [put_step l i k s A B D hlt (by rw [hr]; exact h1) (by rw [hr]; exact h2) (by rw [hr]; exact h3) h4 h5 h6 (by omega) (by omega), hr, ← hE, h7]
    have e3 : (s ++ E).size = s.size + E.size := ByteArray.size_append
    rw [h2, ih (i + 1) k (s ++ E) (by omega) (by omega) (by omega), hd]
    show _ = some (kept (s ++ (enc c ++ encL (l.drop (i + 1)))))
    rw [hE, append_assoc]
theorem put_ok (l : List S33) (hl : okL l) (k : Nat) (hk : 300 ≤ k) : wal_Put.f k l = some (kept (rec_ l)) := by
  have h256 := hl.2.1
  obtain ⟨b, hb, hi⟩ := may_some l (by omega)
  obtain rfl := hi.mpr hl
  unfold wal_Put.f
  rw [hb, Option.bind_some, if_pos rfl, if_pos (by omega), num_some (l.length : Int) (by omega) (by omega) k (by omega), Option.bind_some]
  have h := put_loop l hl l.length 0 k (strOfNums (leb 10 (l.length : Int))) (by omega) (by omega) (by rw [strOfNums_size]; have := leb_length 10 (l.length : Int); omega)
  rw [show ((0 : Nat) : Int) = 0 from rfl, List.drop_zero] at h
  exact h
theorem put_not (l : List S33) (hn : l.length ≤ 9223372036854775807) (hl : ¬ okL l) (k : Nat) : wal_Put.f k l = some em := by
  obtain ⟨b, hb, hi⟩ := may_some l hn
  have hf : b = false := by cases b with | true => exact absurd (hi.mp rfl) hl | false => rfl
  subst hf
  unfold wal_Put.f
  rw [hb, Option.bind_some, if_neg (by decide)]
theorem tru_eq (b : Bool) : tru b = strOfNums (leb 10 (if b = true then 1 else 0)) := by cases b <;> rfl
theorem bool_reads (b : Bool) (rest : ByteArray) (k : Nat) (hk : 30 ≤ k) : cR_Bool.f k (tru b ++ rest) 0 = some (b, rest, 0) := by
  unfold cR_Bool.f
  rw [tru_eq, num_reads (if b = true then 1 else 0) 1 (by split <;> omega) (by split <;> omega) (by split <;> omega) rest k hk, Option.bind_some]
  cases b <;> rfl
theorem text_reads_k (t rest : ByteArray) (most : Int) (ht : (t.size : Int) ≤ most) (h16 : t.size ≤ 65536) (k : Nat) (hk : 30 ≤ k) : cR_Text.f k (txt t ++ rest) 0 most = some (t, rest, 0) := by
  rw [txt, append_assoc]
  exact text_reads t rest most ht h16 k hk
theorem end_em : cR_End.f em 0 = some (0, em, 0) := by decide +kernel
theorem get_loop (s : ByteArray) (hs : ¬ (s.size : Int) > 16384) (l : List S33) (hl : okL l) : ∀ (d i k : Nat), i + d = l.length → d + 40 ≤ k →
    wal_Get.l0 k s (l.take i) (l.length : Int) (i : Int) (encL (l.drop i)) 0 = some (l, 0) := by
  have h256 := hl.2.1
  intro d
  induction d with
  | zero =>
    intro i k hi hk
    obtain ⟨k, rfl⟩ : ∃ m, k = m + 1 := ⟨k - 1, by omega⟩
    obtain ⟨b, hb, hi2⟩ := may_some l (by omega)
    obtain rfl := hi2.mpr hl
    rw [wal_Get.l0, if_neg (by omega), List.drop_of_length_le (by omega), List.take_of_length_le (by omega), encL, end_em, Option.bind_some, if_pos rfl, if_neg hs, hb, Option.bind_some, if_pos rfl]
  | succ d ih =>
    intro i k hi hk
    obtain ⟨k, rfl⟩ : ∃ m, k = m + 1 := ⟨k - 1, by omega⟩
    have hlt : i < l.length := by omega
    obtain ⟨c, hcd⟩ : ∃ c, l[i] = c := ⟨_, rfl⟩
    have hc : okC c := by rw [← hcd]; exact hl.2.2 l[i] (List.getElem_mem hlt)
    have hd : l.drop i = c :: l.drop (i + 1) := by rw [drop_cons l i hlt, hcd]
    have e5 := hc.2.1
    have e6 := hc.2.2.1
    have hw : wrap64 ((i : Int) + 1) = ((i + 1 : Nat) : Int) := by unfold wrap64; omega
    have ht : l.take i ++ [c] = l.take (i + 1) := by rw [← hcd]; exact (List.take_succ_eq_append_getElem hlt).symm
    clear hcd
    have htl : (l.take i).length < 3518437208883 := by rw [List.length_take]; omega
    rw [wal_Get.l0, if_pos (by omega), hd, encL, enc, append_assoc, append_assoc, bool_reads _ _ k (by omega), Option.bind_some]
    show ((cR_Text.f k (txt c.f0 ++ _) 0 96).bind _) = _
    rw [text_reads_k _ _ 96 (by omega) (by omega) k (by omega), Option.bind_some]
    by_cases g : c.f2 = true
    · rw [if_pos g, if_pos htl, hw, if_pos g, empty_append]
      show wal_Get.l0 k s (l.take i ++ [(⟨c.f0, em, c.f2⟩ : S33)]) _ _ _ _ = _
      rw [show (⟨c.f0, em, c.f2⟩ : S33) = c by rw [← hc.2.2.2 g], ht]
      exact ih (i + 1) k (by omega) (by omega)
    · rw [if_neg g, if_neg g]
      show ((cR_Text.f k (txt c.f1 ++ encL (l.drop (i + 1))) 0 4096).bind _) = _
      rw [text_reads_k _ _ 4096 (by omega) (by omega) k (by omega), Option.bind_some, if_pos htl, hw]
      show wal_Get.l0 k s (l.take i ++ [c]) _ _ _ _ = _
      rw [ht]
      exact ih (i + 1) k (by omega) (by omega)
theorem get_ok (l : List S33) (hl : okL l) (hs : ¬ ((rec_ l).size : Int) > 16384) (k : Nat) (hk : 300 ≤ k) : wal_Get.f k (rec_ l) = some (l, 0) := by
  have h256 := hl.2.1
  have hw : wrap64 (l.length : Int) = ((l.length : Nat) : Int) := by unfold wrap64; omega
  unfold wal_Get.f code_Read.f
  rw [Option.bind_some]
  show ((cR_Num.f k (strOfNums (leb 10 (l.length : Int)) ++ encL l) 0 256).bind _) = _
  rw [num_reads (l.length : Int) 256 (by omega) (by omega) (by omega) (encL l) k (by omega), Option.bind_some]
  show wal_Get.l0 k (rec_ l) [] (wrap64 (l.length : Int)) 0 (encL l) 0 = _
  rw [hw]
  exact get_loop (rec_ l) hs l hl l.length 0 k (by omega) (by omega)
theorem get_em (k : Nat) (hk : 40 ≤ k) : wal_Get.f k em = some ([], 2) := by
  obtain ⟨k, rfl⟩ : ∃ m, k = m + 2 := ⟨k - 2, by omega⟩
  have hn : cR_Num.f (k + 2) em 0 256 = some (0, em, 2) := by
    unfold cR_Num.f
    rw [cR_Num.l0, if_pos (by decide), bytes_short em 1 (by decide), Option.bind_some, if_pos em_nil]
  have he : cR_End.f em 2 = some (2, em, 2) := by decide +kernel
  have hw : wrap64 0 = 0 := w64 (by decide) (by decide)
  unfold wal_Get.f code_Read.f
  rw [Option.bind_some]
  show ((cR_Num.f (k + 2) em 0 256).bind _) = _
  rw [hn, Option.bind_some]
  show wal_Get.l0 (k + 2) em [] (wrap64 0) 0 em 2 = _
  rw [hw, wal_Get.l0, if_neg (by decide), he, Option.bind_some, if_neg (by decide)]
theorem rec_ne (l : List S33) : (rec_ l).toList ≠ [] := fun e => by
  have h := congrArg ByteArray.size (nil_em e)
  have h2 : 0 < (leb 10 (l.length : Int)).length := by unfold leb; split <;> simp
  rw [rec_, ByteArray.size_append, strOfNums_size] at h
  have h3 : em.size = 0 := rfl
  omega
/-! ### the document's records -/
theorem rbool_some (b : Bool) : r04_Bool.f b = some (tru b) := by cases b <;> rfl
theorem rtext_k (t : ByteArray) (ht : t.size ≤ 5000) (k : Nat) (hk : 10 ≤ k) : r04_Text.f k t = some (txt t) := by
  have h2 : (strOfNums (leb 10 (t.size : Int))).size ≤ 10 := by rw [strOfNums_size]; exact leb_length 10 _
  unfold r04_Text.f
  rw [if_pos (by omega), ref_num_some (t.size : Int) (by omega) (by omega) k hk, Option.bind_some, if_pos (by omega), txt]
theorem rput_step (l : List S33) (i k : Nat) (s A B D : ByteArray) (hlt : i < l.length) (hb : r04_Bool.f (rd_T33 l (i : Int)).f2 = some A) (hk : r04_Text.f k (rd_T33 l (i : Int)).f0 = some B) (hv : r04_Text.f k (rd_T33 l (i : Int)).f1 = some D)
    (hA : A.size = 1) (hB : B.size ≤ 200) (hD : D.size ≤ 5000) (hs : s.size ≤ 4000000) (hl : l.length ≤ 1000) :
    r15_Put.l0 (k + 1) l s (i : Int) = r15_Put.l0 k l (s ++ ((A ++ B) ++ (if (rd_T33 l (i : Int)).f2 = true then em else D))) ((i + 1 : Nat) : Int) := by
  have e7 : (A ++ B).size = A.size + B.size := ByteArray.size_append
  have e8 : (s ++ (A ++ B)).size = s.size + (A.size + B.size) := by rw [ByteArray.size_append, e7]
  have hw : wrap64 ((i : Int) + 1) = ((i + 1 : Nat) : Int) := by unfold wrap64; omega
  rw [r15_Put.l0, if_pos (by omega), if_pos (by omega), hb, Option.bind_some, hk, Option.bind_some, if_pos (by omega), if_pos (by omega)]
  by_cases g : (rd_T33 l (i : Int)).f2 = true
  · rw [if_pos g, if_pos g, hw, append_empty]
  · rw [if_neg g, if_neg g, hv, Option.bind_some, if_pos (by omega), hw, append_assoc]
theorem renc_step (c : S33) (hc : okC c) (k : Nat) (hk : 10 ≤ k) : ∃ A B D : ByteArray, r04_Bool.f c.f2 = some A ∧ r04_Text.f k c.f0 = some B ∧ r04_Text.f k c.f1 = some D ∧ A.size = 1 ∧ B.size ≤ 200 ∧ D.size ≤ 5000 ∧ enc c = (A ++ B) ++ (if c.f2 = true then em else D) :=
  ⟨tru c.f2, txt c.f0, txt c.f1, rbool_some _, rtext_k _ (Nat.le_trans hc.2.1 (by decide)) k hk, rtext_k _ (Nat.le_trans hc.2.2.1 (by decide)) k hk, tru_size _, Nat.le_trans (txt_size _) (by have := hc.2.1; omega), Nat.le_trans (txt_size _) (by have := hc.2.2.1; omega), rfl⟩
theorem rput_loop (l : List S33) (hl : okL l) : ∀ (d i k : Nat) (s : ByteArray), i + d = l.length → d + 12 ≤ k → s.size ≤ 10 + 4300 * i →
    r15_Put.l0 k l s (i : Int) = some (kept (s ++ encL (l.drop i))) := by
  intro d
  induction d with
  | zero =>
    intro i k s hi hk hs
    obtain ⟨k, rfl⟩ : ∃ m, k = m + 1 := ⟨k - 1, by omega⟩
    rw [r15_Put.l0, if_neg (by omega), List.drop_of_length_le (by omega)]
    show _ = some (kept (s ++ em))
    rw [append_empty, kept]
    by_cases c : (s.size : Int) > 16384
    · rw [if_pos c, if_pos c]
    · rw [if_neg c, if_neg c]
  | succ d ih =>
    intro i k s hi hk hs
    obtain ⟨k, rfl⟩ : ∃ m, k = m + 1 := ⟨k - 1, by omega⟩
    have hlt : i < l.length := by omega
    have h256 := hl.2.1
    obtain ⟨c, hcd⟩ : ∃ c, l[i] = c := ⟨_, rfl⟩
    have hc : okC c := by rw [← hcd]; exact hl.2.2 l[i] (List.getElem_mem hlt)
    have hr : rd_T33 l (i : Int) = c := (rd_get l i hlt).trans hcd
    have hd : l.drop i = c :: l.drop (i + 1) := by rw [drop_cons l i hlt, hcd]
    have e1 := enc_size _ hc
    obtain ⟨E, hE⟩ : ∃ E, enc c = E := ⟨_, rfl⟩
    rw [hE] at e1
    have h2 : r15_Put.l0 (k + 1) l s (i : Int) = r15_Put.l0 k l (s ++ E) ((i + 1 : Nat) : Int) := by
      obtain ⟨A, B, D, h1, h2, h3, h4, h5, h6, h7⟩ := renc_step c hc k (by omega)
      rw [rput_step l i k s A B D hlt (by rw [hr]; exact h1) (by rw [hr]; exact h2) (by rw [hr]; exact h3) h4 h5 h6 (by omega) (by omega), hr, ← hE, h7]
    have e3 : (s ++ E).size = s.size + E.size := ByteArray.size_append
    rw [h2, ih (i + 1) k (s ++ E) (by omega) (by omega) (by omega), hd]
    show _ = some (kept (s ++ (enc c ++ encL (l.drop (i + 1)))))
    rw [hE, append_assoc]
theorem rmay_loop (l : List S33) (hn : l.length ≤ 100000) : ∀ (d i k : Nat), i + d = l.length → d + 1 ≤ k → (∀ c ∈ l.take i, okC c) →
    ∃ b, r15_May.l0 k l (i : Int) = some b ∧ (b = true ↔ okL l) := by
  intro d
  induction d with
  | zero =>
    intro i k hi hk hc
    obtain ⟨k, rfl⟩ : ∃ m, k = m + 1 := ⟨k - 1, by omega⟩
    rw [List.take_of_length_le (by omega)] at hc
    rw [r15_May.l0, if_neg (by omega)]
    by_cases c : (l.length : Int) ≥ 1
    · refine ⟨_, if_pos c, ?_⟩
      rw [decide_eq_true_eq]
      exact ⟨fun h => ⟨by omega, by omega, hc⟩, fun h => by have := h.2.1; omega⟩
    · exact ⟨_, if_neg c, ⟨fun h => absurd h (by decide), fun h => absurd h.1 (by omega)⟩⟩
  | succ d ih =>
    intro i k hi hk hc
    obtain ⟨k, rfl⟩ : ∃ m, k = m + 1 := ⟨k - 1, by omega⟩
    have hlt : i < l.length := by omega
    obtain ⟨c, hcd⟩ : ∃ c, l[i] = c := ⟨_, rfl⟩
    have hm : c ∈ l := by rw [← hcd]; exact List.getElem_mem hlt
    have hr : rd_T33 l (i : Int) = c := (rd_get l i hlt).trans hcd
    have hw : wrap64 ((i : Int) + 1) = ((i + 1 : Nat) : Int) := by unfold wrap64; omega
    have ht : l.take (i + 1) = l.take i ++ [c] := by rw [← hcd]; exact List.take_succ_eq_append_getElem hlt
    have hz : c.f1 = em ↔ ¬ (c.f1.size : Int) > 0 := by
      constructor
      · intro e; rw [e]; decide
      · intro e
        apply toList_inj.mp
        rw [em_nil]
        apply List.length_eq_zero_iff.mp
        rw [toList_data, data_len]
        omega
    have hz0 : c.f0 ≠ em ↔ ¬ (c.f0.size : Int) < 1 := by
      constructor
      · intro e h
        apply e
        apply toList_inj.mp
        rw [em_nil]
        apply List.length_eq_zero_iff.mp
        rw [toList_data, data_len]
        omega
      · intro h e
        rw [e] at h
        exact h (by decide)
    have bad : ¬ okC c → ((false : Bool) = true ↔ okL l) := fun h => ⟨fun e => absurd e (by decide), fun e => absurd (e.2.2 c hm) h⟩
    have good : okC c → ∃ b, r15_May.l0 k l ((i + 1 : Nat) : Int) = some b ∧ (b = true ↔ okL l) := fun h => ih (i + 1) k (by omega) (by omega) (fun x hx => by
      rw [ht] at hx
      rcases List.mem_append.mp hx with hx | hx
      · exact hc x hx
      · rw [List.mem_singleton.mp hx]; exact h)
    rw [r15_May.l0, if_pos (by omega), if_pos (by omega), hr, hw]
    by_cases c1 : (c.f0.size : Int) < 1
    · exact ⟨_, if_pos c1, bad fun h => hz0.mp h.1 c1⟩
    · rw [if_neg c1]
      by_cases c2 : (c.f0.size : Int) > 96
      · exact ⟨_, if_pos c2, bad fun h => by have := h.2.1; omega⟩
      · rw [if_neg c2]
        by_cases c3 : (c.f1.size : Int) > 4096
        · exact ⟨_, if_pos c3, bad fun h => by have := h.2.2.1; omega⟩
        · rw [if_neg c3]
          by_cases g : c.f2 = true
          · rw [if_pos g]
            by_cases c4 : (c.f1.size : Int) > 0
            · exact ⟨_, if_pos c4, bad fun h => hz.mp (h.2.2.2 g) c4⟩
            · rw [if_neg c4]
              exact good ⟨hz0.mpr c1, by omega, by omega, fun _ => hz.mpr c4⟩
          · rw [if_neg g]
            exact good ⟨hz0.mpr c1, by omega, by omega, fun h => absurd h g⟩
theorem rmay_some (l : List S33) (hn : l.length ≤ 100000) (k : Nat) (hk : l.length + 1 ≤ k) : ∃ b, r15_May.f k l = some b ∧ (b = true ↔ okL l) :=
  rmay_loop l hn l.length 0 k (by omega) hk (fun x hx => by rw [List.take_zero] at hx; exact absurd hx List.not_mem_nil)
theorem rput_ok (l : List S33) (hl : okL l) (k : Nat) (hk : 300 ≤ k) : r15_Put.f k l = some (kept (rec_ l)) := by
  have h256 := hl.2.1
  obtain ⟨b, hb, hi⟩ := rmay_some l (by omega) k (by omega)
  obtain rfl := hi.mpr hl
  unfold r15_Put.f
  rw [hb, Option.bind_some, if_pos rfl, if_pos (by omega), ref_num_some (l.length : Int) (by omega) (by omega) k (by omega), Option.bind_some]
  have h := rput_loop l hl l.length 0 k (strOfNums (leb 10 (l.length : Int))) (by omega) (by omega) (by rw [strOfNums_size]; have := leb_length 10 (l.length : Int); omega)
  rw [show ((0 : Nat) : Int) = 0 from rfl, List.drop_zero] at h
  exact h
theorem rput_not (l : List S33) (hn : l.length ≤ 100000) (hl : ¬ okL l) (k : Nat) (hk : l.length + 1 ≤ k) : r15_Put.f k l = some em := by
  obtain ⟨b, hb, hi⟩ := rmay_some l hn k hk
  have hf : b = false := by cases b with | true => exact absurd (hi.mp rfl) hl | false => rfl
  subst hf
  unfold r15_Put.f
  rw [hb, Option.bind_some, if_neg (by decide)]
/-! ### two records that are the same; a law's own changes -/
theorem same_loop (l : List S33) (hn : l.length ≤ 100000) : ∀ (d i k : Nat), i + d = l.length → d + 1 ≤ k → l15_same.l0 k l l (i : Int) = some true := by
  intro d
  induction d with
  | zero =>
    intro i k hi hk
    obtain ⟨k, rfl⟩ : ∃ m, k = m + 1 := ⟨k - 1, by omega⟩
    rw [l15_same.l0, if_neg (by omega)]
  | succ d ih =>
    intro i k hi hk
    obtain ⟨k, rfl⟩ : ∃ m, k = m + 1 := ⟨k - 1, by omega⟩
    have hw : wrap64 ((i : Int) + 1) = ((i + 1 : Nat) : Int) := by unfold wrap64; omega
    rw [l15_same.l0, if_pos (by omega), if_pos (by omega), if_pos (by omega), if_neg (by simp), hw]
    exact ih (i + 1) k (by omega) (by omega)
theorem same_some (l : List S33) (hn : l.length ≤ 100000) (k : Nat) (hk : l.length + 1 ≤ k) : l15_same.f k l l = some true := by
  unfold l15_same.f
  rw [if_pos rfl]
  exact same_loop l hn l.length 0 k (by omega) hk
theorem cut_some (S : ByteArray) (m : Int) (hm : 0 ≤ m) : 0 ≤ mn (S.size : Int) m ∧ mn (S.size : Int) m ≤ (S.size : Int) ∧ (S.extract 0 (mn (S.size : Int) m).toNat).size ≤ m := by
  have g1 : 0 ≤ mn (S.size : Int) m := by unfold mn; split <;> omega
  have g2 : mn (S.size : Int) m ≤ (S.size : Int) := by unfold mn; split <;> omega
  have g3 : mn (S.size : Int) m ≤ m := by unfold mn; split <;> omega
  exact ⟨g1, g2, by rw [ByteArray.size_extract]; omega⟩
theorem and8191 (a : Int) : ∃ q : Nat, Go.bits .and .i64 a 8191 = (q : Int) ∧ q < 8192 := by
  have h : Go.bits .and .i64 a ((2 ^ 13 - 1 : Nat) : Int) = a % ((2 ^ 13 : Nat) : Int) := and_mask64 a 13 (by decide) (by decide)
  have h2 : Go.bits .and .i64 a 8191 = a % 8192 := h
  exact ⟨(a % 8192).toNat, by rw [h2]; omega, by omega⟩
theorem cut_loop (l : List S33) (a : Int) : ∀ (d i k : Nat) (out : List S33), i + d = 12 → 2 * d + 2 ≤ k → out.length = i → i ≤ l.length → ∃ x, l15_cut.l0 k l a out (i : Int) = some x ∧ x.length = min l.length 12 := by
  intro d
  induction d with
  | zero =>
    intro i k out hi hk ho hil
    obtain ⟨k, rfl⟩ : ∃ m, k = m + 2 := ⟨k - 2, by omega⟩
    have hd : decide ((i : Int) < 12) = false := decide_eq_false (by omega)
    refine ⟨out, ?_, by omega⟩
    by_cases c : (i : Int) < (l.length : Int)
    · rw [l15_cut.l0, if_pos c, hd, l15_cut.j1, if_neg (by decide)]
    · rw [l15_cut.l0, if_neg c, l15_cut.j1, if_neg (by decide)]
  | succ d ih =>
    intro i k out hi hk ho hil
    obtain ⟨k, rfl⟩ : ∃ m, k = m + 2 := ⟨k - 2, by omega⟩
    have hd : decide ((i : Int) < 12) = true := decide_eq_true (by omega)
    have hw : wrap64 ((i : Int) + 1) = ((i + 1 : Nat) : Int) := by unfold wrap64; omega
    by_cases c : (i : Int) < (l.length : Int)
    · obtain ⟨e, he⟩ : ∃ e, rd_T33 l (i : Int) = e := ⟨_, rfl⟩
      obtain ⟨a1, a2, a3⟩ := cut_some e.f0 100 (by decide)
      obtain ⟨b1, b2, b3⟩ := cut_some e.f1 60 (by decide)
      have next : ∀ z : S33, ∃ x, l15_cut.l0 k l a (out ++ [z]) ((i + 1 : Nat) : Int) = some x ∧ x.length = min l.length 12 := fun z =>
        ih (i + 1) k (out ++ [z]) (by omega) (by omega) (by rw [List.length_append, List.length_singleton, ho]) (by omega)
      rw [l15_cut.l0, if_pos c, hd, l15_cut.j1, if_pos rfl, if_pos (by omega), if_pos c, he, if_pos a1, if_pos a2, if_pos b1, if_pos b2, hw]
      by_cases c0 : (i : Int) = 0
      · rw [if_pos c0]
        by_cases g : e.f2 = true
        · rw [if_pos g, if_pos (by omega)]; exact next _
        · obtain ⟨q, hq, hq2⟩ := and8191 a
          rw [if_neg g, hq, if_pos (by omega), if_pos (by omega), Option.bind_some, if_pos (by rw [strOfNums_size, List.length_replicate]; omega), if_pos (by omega)]
          exact next _
      · rw [if_neg c0, if_pos (by omega)]; exact next _
    · rw [l15_cut.l0, if_neg c, l15_cut.j1, if_neg (by decide)]
      exact ⟨out, rfl, by omega⟩
theorem cut_ok (l : List S33) (a : Int) (k : Nat) (hk : 30 ≤ k) : ∃ x, l15_cut.f k l a = some x ∧ x.length = min l.length 12 :=
  cut_loop l a 12 0 k [] rfl (by omega) rfl (Nat.zero_le _)
end Go.Proofs.Ytlahimndndlbiaa.QWalSplits
