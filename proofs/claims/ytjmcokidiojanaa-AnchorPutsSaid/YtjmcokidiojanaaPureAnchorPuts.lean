/- The plain law of AnchorPuts: an anchor has the document's bytes, and is read again; one that may not be has none. -/
import Derived.Test.YtjmcokidiojanaaPAnchorPutsx9
import Derived.Test.YtjmcokidiojanaaRAnchorPuts
namespace Go.Proofs.Ytjmcokidiojanaa.Pure
open Go.RowKit Go.Proofs.Ytjmcokidiojanaa.PAnchorPuts Go.Proofs.YtjmcokidiojanaaW.PrintWords Go.Proofs.YtjmcokidiojanaaW.PrintLast Go.Proofs.YtjmcokidiojanaaW.PrintMore Go.Proofs.Ytjmcokidiojanaa.XB Go.Proofs.Ytjmcokidiojanaa.RAnchorPuts Go.Proofs.Ytjmcokidiojanaa.An
set_option linter.unusedVariables false
set_option linter.unusedSimpArgs false
abbrev em : ByteArray := ⟨#[]⟩
abbrev lode : ByteArray := ⟨#[108, 111, 100, 101]⟩
theorem em_nil : em.toList = [] := (toList_data em).trans rfl
theorem awake_62 : lodestonelaw12_awake.f 62 = some true := by decide +kernel
def num (n : Int) : ByteArray := strOfNums (leb 10 n)
def txt (t : ByteArray) : ByteArray := strOfNums (leb 10 (t.size : Int)) ++ t
def tru (b : Bool) : ByteArray := if b = true then (⟨#[1]⟩ : ByteArray) else (⟨#[0]⟩ : ByteArray)
def four (e : Int) : ByteArray := strOfNums (be 4 e)
theorem tru_size (b : Bool) : (tru b).size = 1 := by cases b <;> rfl
theorem num_size (n : Int) : (num n).size ≤ 10 := by rw [num, strOfNums_size]; exact leb_length 10 n
theorem four_size (e : Int) : (four e).size = 4 := by rw [four, strOfNums_size, be_length]
theorem txt_size (t : ByteArray) : (txt t).size ≤ 10 + t.size := by
  rw [txt, ByteArray.size_append, strOfNums_size]
  have := leb_length 10 (t.size : Int)
  omega
theorem bool_some (b : Bool) : code_Bool.f b = some (tru b) := by cases b <;> rfl
theorem rbool_some (b : Bool) : lodestoneref04_Bool.f b = some (tru b) := by cases b <;> rfl
theorem rtext_some (t : ByteArray) (ht : t.size ≤ 1000) : lodestoneref04_Text.f 62 t = some (txt t) := by
  have h := leb_length 10 (t.size : Int)
  have h2 : (strOfNums (leb 10 (t.size : Int))).size ≤ 10 := by rw [strOfNums_size]; exact h
  unfold lodestoneref04_Text.f
  rw [if_pos (by omega), ref_num_some (t.size : Int) (by omega) (by omega) 62 (by decide), Option.bind_some, if_pos (by omega), txt]
theorem tru_eq (b : Bool) : tru b = strOfNums (leb 10 (if b = true then 1 else 0)) := by cases b <;> rfl
theorem bool_reads (b : Bool) (rest : ByteArray) : code_Reader_Bool.f 61 (tru b ++ rest) 0 = some (b, rest, 0) := by
  unfold code_Reader_Bool.f
  rw [tru_eq, num_reads (if b = true then 1 else 0) 1 (by split <;> omega) (by split <;> omega) (by split <;> omega) rest 61 (by decide), Option.bind_some]
  cases b <;> rfl
theorem text_reads_k (t rest : ByteArray) (most : Int) (ht : (t.size : Int) ≤ most) (h16 : t.size ≤ 65536) : code_Reader_Text.f 61 (txt t ++ rest) 0 most = some (t, rest, 0) := by
  rw [txt, append_assoc]
  exact text_reads t rest most ht h16 61 (by decide)
/-- an anchor as bytes -/
def body (g e : Int) (tn : Bool) (nx : ByteArray) (pl : Int) (rs : ByteArray) (fr ma : Int) (ch : ByteArray) : ByteArray :=
  ((((((((lode ++ num g) ++ four e) ++ tru tn) ++ txt nx) ++ num (pl + 1)) ++ txt rs) ++ num fr) ++ num ma) ++ ch
theorem put_step (g e : Int) (tn : Bool) (nx : ByteArray) (pl : Int) (rs : ByteArray) (fr ma : Int) (ch A B C D E F G H : ByteArray) (hm : anchor_May.f g e tn nx pl rs fr ma ch = some true)
    (h1 : code_Num.f 62 g = some A) (h2 : code_Small.f e = some B) (h3 : code_Bool.f tn = some C) (h4 : code_Text.f 62 nx = some D) (h5 : code_Num.f 62 (IntKind.u64.wrap (wrap64 (pl + 1))) = some E) (h6 : code_Text.f 62 rs = some F) (h7 : code_Num.f 62 (IntKind.u64.wrap fr) = some G) (h8 : code_Num.f 62 (IntKind.u64.wrap ma) = some H)
    (s1 : A.size ≤ 1000) (s2 : B.size ≤ 1000) (s3 : C.size ≤ 1000) (s4 : D.size ≤ 1000) (s5 : E.size ≤ 1000) (s6 : F.size ≤ 1000) (s7 : G.size ≤ 1000) (s8 : H.size ≤ 1000) (s9 : ch.size ≤ 1000) :
    anchor_Put.f 62 g e tn nx pl rs fr ma ch = some (((((((((lode ++ A) ++ B) ++ C) ++ D) ++ E) ++ F) ++ G) ++ H) ++ ch) := by
  have hl : (⟨#[108, 111, 100, 101]⟩ : ByteArray).size = 4 := rfl
  unfold anchor_Put.f
  rw [hm, Option.bind_some, if_pos rfl, h1, Option.bind_some, if_pos (by omega), h2, Option.bind_some, if_pos (by simp only [ByteArray.size_append]; omega), h3, Option.bind_some, if_pos (by simp only [ByteArray.size_append]; omega), h4, Option.bind_some, if_pos (by simp only [ByteArray.size_append]; omega), h5, Option.bind_some, if_pos (by simp only [ByteArray.size_append]; omega), h6, Option.bind_some, if_pos (by simp only [ByteArray.size_append]; omega), h7, Option.bind_some, if_pos (by simp only [ByteArray.size_append]; omega), h8, Option.bind_some, if_pos (by simp only [ByteArray.size_append]; omega), if_pos (by simp only [ByteArray.size_append]; omega)]
theorem ref_step (g e : Int) (tn : Bool) (nx : ByteArray) (pl : Int) (rs : ByteArray) (fr ma : Int) (ch A B C D E F G H : ByteArray) (hm : lodestoneref12_May.f g e tn nx pl rs fr ma ch = some true)
    (h1 : lodestoneref04_Num.f 62 g = some A) (h2 : lodestoneref04_High.f 62 (IntKind.u64.wrap e) 4 = some B) (h3 : lodestoneref04_Bool.f tn = some C) (h4 : lodestoneref04_Text.f 62 nx = some D) (h5 : lodestoneref04_Num.f 62 (IntKind.u64.wrap (wrap64 (pl + 1))) = some E) (h6 : lodestoneref04_Text.f 62 rs = some F) (h7 : lodestoneref04_Num.f 62 (IntKind.u64.wrap fr) = some G) (h8 : lodestoneref04_Num.f 62 (IntKind.u64.wrap ma) = some H)
    (s1 : A.size ≤ 1000) (s2 : B.size ≤ 1000) (s3 : C.size ≤ 1000) (s4 : D.size ≤ 1000) (s5 : E.size ≤ 1000) (s6 : F.size ≤ 1000) (s7 : G.size ≤ 1000) (s8 : H.size ≤ 1000) (s9 : ch.size ≤ 1000) :
    lodestoneref12_Put.f 62 g e tn nx pl rs fr ma ch = some (((((((((lode ++ A) ++ B) ++ C) ++ D) ++ E) ++ F) ++ G) ++ H) ++ ch) := by
  have hl : (⟨#[108, 111, 100, 101]⟩ : ByteArray).size = 4 := rfl
  unfold lodestoneref12_Put.f
  rw [hm, Option.bind_some, if_pos rfl, h1, Option.bind_some, if_pos (by omega), h2, Option.bind_some, if_pos (by simp only [ByteArray.size_append]; omega), h3, Option.bind_some, if_pos (by simp only [ByteArray.size_append]; omega), h4, Option.bind_some, if_pos (by simp only [ByteArray.size_append]; omega), h5, Option.bind_some, h6, Option.bind_some, if_pos (by omega), if_pos (by simp only [ByteArray.size_append]; omega), h7, Option.bind_some, if_pos (by simp only [ByteArray.size_append]; omega), h8, Option.bind_some, if_pos (by simp only [ByteArray.size_append]; omega), if_pos (by simp only [ByteArray.size_append]; omega), ← append_assoc _ E F]
/-- one that may be: bounds -/
structure Ok (g e pl fr ma : Int) (nx rs ch : ByteArray) : Prop where
  g0 : 0 ≤ g
  g1 : g < 18446744073709551616
  e0 : 0 ≤ e
  e1 : e < 4294967296
  p0 : -1 ≤ pl
  p1 : pl < 4096
  f0 : 0 ≤ fr
  f1 : fr < 4096
  m0 : 0 ≤ ma
  m1 : ma < 4096
  nx : nx.size ≤ 96
  rs : rs.size ≤ 32
  ch : ch.size = 32
theorem ok_of {g e : Int} {tn : Bool} {nx : ByteArray} {pl : Int} {rs : ByteArray} {fr ma : Int} {ch : ByteArray} (g0 : 0 ≤ g) (g1 : g < 18446744073709551616) (e0 : 0 ≤ e) (e1 : e < 4294967296) (h : mayB tn nx pl rs fr ma ch = true) : Ok g e pl fr ma nx rs ch := by
  obtain ⟨h1, ⟨h2, h3, h4, h5⟩, h6, h7, _⟩ := (mayB_iff ..).mp h
  have hr : -1 ≤ pl ∧ pl < 4096 ∧ rs.size ≤ 32 := by
    rcases h1 with ⟨h8, h9⟩ | ⟨h8, h9, h10⟩
    · have e2 : rs = em := toList_inj.mp (h9.trans em_nil.symm)
      have e3 : em.size = 0 := rfl
      exact ⟨by omega, by omega, by rw [e2]; omega⟩
    · exact ⟨by omega, by omega, by omega⟩
  exact ⟨g0, g1, e0, e1, hr.1, hr.2.1, h2, h3, h4, h5, by omega, hr.2.2, by omega⟩
section
variable {g e pl fr ma : Int} {tn : Bool} {nx rs ch : ByteArray}
theorem wrap_pl (h : Ok g e pl fr ma nx rs ch) : IntKind.u64.wrap (wrap64 (pl + 1)) = pl + 1 := by
  have h1 := h.p0
  have h2 := h.p1
  rw [w64 (by omega) (by omega), wu64s (by omega) (by omega)]
theorem wrap_fr (h : Ok g e pl fr ma nx rs ch) : IntKind.u64.wrap fr = fr := by
  have h1 := h.f0
  have h2 := h.f1
  exact wu64s h1 (by omega)
theorem wrap_ma (h : Ok g e pl fr ma nx rs ch) : IntKind.u64.wrap ma = ma := by
  have h1 := h.m0
  have h2 := h.m1
  exact wu64s h1 (by omega)
theorem txt_le (t : ByteArray) (h : t.size ≤ 96) : (txt t).size ≤ 1000 := by have := txt_size t; omega
theorem num_le (n : Int) : (num n).size ≤ 1000 := Nat.le_trans (num_size n) (by decide)
theorem put_ok (h : Ok g e pl fr ma nx rs ch) (hm : mayB tn nx pl rs fr ma ch = true) : anchor_Put.f 62 g e tn nx pl rs fr ma ch = some (body g e tn nx pl rs fr ma ch) := by
  have a1 := h.p0; have a2 := h.p1; have a3 := h.f0; have a4 := h.f1; have a5 := h.m0; have a6 := h.m1; have a7 := h.nx; have a8 := h.rs; have a9 := h.ch
  refine put_step g e tn nx pl rs fr ma ch (num g) (four e) (tru tn) (txt nx) (num (pl + 1)) (txt rs) (num fr) (num ma) (congrArg some hm) (num_some g h.g0 h.g1 62 (by decide)) (small_some e) (bool_some tn) (text_some nx (Nat.le_trans a7 (by decide)) 62 (by decide)) ?_ (text_some rs (Nat.le_trans a8 (by decide)) 62 (by decide)) ?_ ?_ (num_le g) (Nat.le_trans (Nat.le_of_eq (four_size e)) (by decide)) (Nat.le_trans (Nat.le_of_eq (tru_size tn)) (by decide)) (txt_le nx a7) (num_le _) (txt_le rs (Nat.le_trans a8 (by decide))) (num_le _) (num_le _) (Nat.le_trans (Nat.le_of_eq a9) (by decide))
  · rw [wrap_pl h]; exact num_some _ (by omega) (by omega) 62 (by decide)
  · rw [wrap_fr h]; exact num_some _ (by omega) (by omega) 62 (by decide)
  · rw [wrap_ma h]; exact num_some _ (by omega) (by omega) 62 (by decide)
theorem ref_ok (h : Ok g e pl fr ma nx rs ch) (hm : mayB tn nx pl rs fr ma ch = true) : lodestoneref12_Put.f 62 g e tn nx pl rs fr ma ch = some (body g e tn nx pl rs fr ma ch) := by
  have a1 := h.p0; have a2 := h.p1; have a3 := h.f0; have a4 := h.f1; have a5 := h.m0; have a6 := h.m1; have a7 := h.nx; have a8 := h.rs; have a9 := h.ch; have b1 := h.e0; have b2 := h.e1
  refine ref_step g e tn nx pl rs fr ma ch (num g) (four e) (tru tn) (txt nx) (num (pl + 1)) (txt rs) (num fr) (num ma) (congrArg some hm) (ref_num_some g h.g0 h.g1 62 (by decide)) ?_ (rbool_some tn) (rtext_some nx (Nat.le_trans a7 (by decide))) ?_ (rtext_some rs (Nat.le_trans a8 (by decide))) ?_ ?_ (num_le g) (Nat.le_trans (Nat.le_of_eq (four_size e)) (by decide)) (Nat.le_trans (Nat.le_of_eq (tru_size tn)) (by decide)) (txt_le nx a7) (num_le _) (txt_le rs (Nat.le_trans a8 (by decide))) (num_le _) (num_le _) (Nat.le_trans (Nat.le_of_eq a9) (by decide))
  · rw [wu64s b1 (by omega)]; exact high_some e 4 4 rfl (by decide) b1 (by omega) 62 (by decide)
  · rw [wrap_pl h]; exact ref_num_some _ (by omega) (by omega) 62 (by decide)
  · rw [wrap_fr h]; exact ref_num_some _ (by omega) (by omega) 62 (by decide)
  · rw [wrap_ma h]; exact ref_num_some _ (by omega) (by omega) 62 (by decide)
theorem end_em : code_Reader_End.f em 0 = some (0, em, 0) := by decide +kernel
theorem get_ok (h : Ok g e pl fr ma nx rs ch) (hm : mayB tn nx pl rs fr ma ch = true) : anchor_Get.f 62 (body g e tn nx pl rs fr ma ch) = some (g, e, tn, nx, pl, rs, fr, ma, ch, 0) := by
  have a1 := h.p0; have a2 := h.p1; have a3 := h.f0; have a4 := h.f1; have a5 := h.m0; have a6 := h.m1; have a7 := h.nx; have a8 := h.rs; have a9 := h.ch
  have g1 := h.g1
  have hb : body g e tn nx pl rs fr ma ch = lode ++ (num g ++ (four e ++ (tru tn ++ (txt nx ++ (num (pl + 1) ++ (txt rs ++ (num fr ++ (num ma ++ (ch ++ em))))))))) := by
    rw [body, append_empty]
    simp only [append_assoc]
  have w1 : wrap64 ((wrap64 (pl + 1)) - 1) = pl := by rw [w64 (x := pl + 1) (by omega) (by omega), show pl + 1 - 1 = pl by omega, w64 (by omega) (by omega)]
  have w2 : wrap64 fr = fr := w64 (by omega) (by omega)
  have w3 : wrap64 ma = ma := w64 (by omega) (by omega)
  unfold anchor_Get.f code_Read.f
  rw [Option.bind_some]
  show ((code_Reader_Bytes.f (body g e tn nx pl rs fr ma ch) 0 4).bind _) = _
  rw [hb, bytes_some lode _ 4 rfl, Option.bind_some, if_pos ((toList_data lode).trans rfl), show (62 : Nat) = 61 + 1 from rfl, anchor_Get.j0]
  show ((code_Reader_Num.f 61 (num g ++ _) 0 18446744073709551615).bind _) = _
  rw [num, num_reads g 18446744073709551615 h.g0 g1 (by omega) _ 61 (by decide), Option.bind_some]
  show ((code_Reader_Small.f (four e ++ _) 0).bind _) = _
  rw [four, small_reads e h.e0 h.e1 _, Option.bind_some]
  show ((code_Reader_Bool.f 61 (tru tn ++ _) 0).bind _) = _
  rw [bool_reads, Option.bind_some]
  show ((code_Reader_Text.f 61 (txt nx ++ _) 0 96).bind _) = _
  rw [text_reads_k nx _ 96 (by omega) (by omega), Option.bind_some]
  show ((code_Reader_Num.f 61 (num (pl + 1) ++ _) 0 4096).bind _) = _
  rw [num, num_reads (pl + 1) 4096 (by omega) (by omega) (by omega) _ 61 (by decide), Option.bind_some]
  show ((code_Reader_Text.f 61 (txt rs ++ _) 0 32).bind _) = _
  rw [text_reads_k rs _ 32 (by omega) (by omega), Option.bind_some]
  show ((code_Reader_Num.f 61 (num fr ++ _) 0 4096).bind _) = _
  rw [num, num_reads fr 4096 (by omega) (by omega) (by omega) _ 61 (by decide), Option.bind_some]
  show ((code_Reader_Num.f 61 (num ma ++ _) 0 4096).bind _) = _
  rw [num, num_reads ma 4096 (by omega) (by omega) (by omega) _ 61 (by decide), Option.bind_some]
  show ((code_Reader_Bytes.f (ch ++ em) 0 32).bind _) = _
  rw [bytes_some ch em 32 (by omega), Option.bind_some]
  show ((code_Reader_End.f em 0).bind _) = _
  rw [end_em, Option.bind_some, if_pos rfl]
  show ((anchor_May.f g e tn nx (wrap64 ((wrap64 (pl + 1)) - 1)) rs (wrap64 fr) (wrap64 ma) ch).bind _) = _
  rw [w1, w2, w3, show anchor_May.f g e tn nx pl rs fr ma ch = some true from congrArg some hm, Option.bind_some, if_pos rfl]
theorem body_size (h : Ok g e pl fr ma nx rs ch) : 0 < (body g e tn nx pl rs fr ma ch).size ∧ (body g e tn nx pl rs fr ma ch).size ≤ 400 := by
  have a7 := txt_size nx
  have a8 := txt_size rs
  have b1 := h.nx
  have b2 := h.rs
  have b3 := h.ch
  have b4 := num_size g
  have b5 := num_size (pl + 1)
  have b6 := num_size fr
  have b7 := num_size ma
  have b8 := four_size e
  have b9 := tru_size tn
  have hl : lode.size = 4 := rfl
  rw [body]
  simp only [ByteArray.size_append]
  generalize (txt nx).size = x1 at *
  generalize (txt rs).size = x2 at *
  generalize (num g).size = x3 at *
  generalize (num (pl + 1)).size = x4 at *
  generalize (num fr).size = x5 at *
  generalize (num ma).size = x6 at *
  generalize (four e).size = x7 at *
  generalize (tru tn).size = x8 at *
  omega
end
theorem get_em : anchor_Get.f 62 em = some (0, 0, false, em, 0, em, 0, 0, em, 2) := by kernel_rfl
theorem near_some (g e : Int) (tn : Bool) (nx : ByteArray) (pl : Int) (rs : ByteArray) (fr ma : Int) (ch : ByteArray) (odd : Int) (h1 : nx.size ≤ 140737488351232) (h2 : rs.size ≤ 140737488351232) (h3 : ch.size ≤ 140737488351232) :
    ∃ (tn' : Bool) (nx' : ByteArray) (pl' : Int) (rs' : ByteArray) (fr' ma' : Int) (ch' : ByteArray), lodestonelaw12_near.f 62 g e tn nx pl rs fr ma ch odd = some (g, e, tn', nx', pl', rs', fr', ma', ch') := by
  have hs : ∀ s : ByteArray, s.size ≤ 140737488351232 → ∃ t, lodestonelaw12_sum.f s = some t := by
    intro s h
    have hz : (s ++ (⟨#[48, 49, 50, 51, 52, 53, 54, 55, 56, 57, 97, 98, 99, 100, 101, 102, 48, 49, 50, 51, 52, 53, 54, 55, 56, 57, 97, 98, 99, 100, 101, 102]⟩ : ByteArray)).size = s.size + 32 := by rw [ByteArray.size_append]; rfl
    exact ⟨_, by unfold lodestonelaw12_sum.f; rw [if_pos (by omega), if_pos (by decide), if_pos (by rw [hz]; omega)]⟩
  obtain ⟨t1, ht1⟩ := hs ch h3
  obtain ⟨t2, ht2⟩ := hs rs h2
  have g1 : 0 ≤ mn (nx.size : Int) 90 := by unfold mn; split <;> omega
  have g2 : mn (nx.size : Int) 90 ≤ (nx.size : Int) := by unfold mn; split <;> omega
  have hj : ∀ (x1 : Int) (p0 p1 : Int) (p2 : Bool) (p3 : ByteArray) (p4 : Int) (p5 : ByteArray) (p6 p7 : Int) (p8 : ByteArray) (q2 : Bool) (q3 : ByteArray) (q4 : Int) (q5 : ByteArray) (q6 q7 : Int) (q8 : ByteArray),
      ∃ (tn' : Bool) (nx' : ByteArray) (pl' : Int) (rs' : ByteArray) (fr' ma' : Int) (ch' : ByteArray), lodestonelaw12_near.j0 62 x1 p0 p1 p2 p3 p4 p5 p6 p7 p8 g e q2 q3 q4 q5 q6 q7 q8 = some (g, e, tn', nx', pl', rs', fr', ma', ch') := by
    intro x1 p0 p1 p2 p3 p4 p5 p6 p7 p8 q2 q3 q4 q5 q6 q7 q8
    rw [show (62 : Nat) = 61 + 1 from rfl, lodestonelaw12_near.j0]
    by_cases c0 : (Go.bits .and .i64 x1 7) = 0
    · exact ⟨_, _, _, _, _, _, _, if_pos c0⟩
    · rw [if_neg c0]
      by_cases c1 : (Go.bits .and .i64 x1 7) = 1
      · exact ⟨_, _, _, _, _, _, _, if_pos c1⟩
      · rw [if_neg c1]
        by_cases c2 : (Go.bits .and .i64 x1 7) = 2
        · exact ⟨_, _, _, _, _, _, _, if_pos c2⟩
        · rw [if_neg c2]
          by_cases c3 : (Go.bits .and .i64 x1 7) = 3
          · exact ⟨_, _, _, _, _, _, _, if_pos c3⟩
          · rw [if_neg c3]
            by_cases c4 : (Go.bits .and .i64 x1 7) = 4
            · exact ⟨_, _, _, _, _, _, _, if_pos c4⟩
            · exact ⟨_, _, _, _, _, _, _, if_neg c4⟩
  unfold lodestonelaw12_near.f
  rw [ht1, Option.bind_some, ht2, Option.bind_some, if_pos g1, if_pos g2]
  by_cases c : (nx.extract 0 ((mn (nx.size : Int) 90) : Int).toNat).toList = ([] : List UInt8)
  · rw [if_pos c]; exact hj _ _ _ _ _ _ _ _ _ _ _ _ _ _ _ _ _
  · rw [if_neg c]; exact hj _ _ _ _ _ _ _ _ _ _ _ _ _ _ _ _ _
theorem law (g e : Int) (tn : Bool) (nx : ByteArray) (pl : Int) (rs : ByteArray) (fr ma : Int) (ch : ByteArray) (odd : Int) (hg : (Lit.int .u64 g).wf = true) (he : (Lit.int .u32 e).wf = true) (h1 : nx.size ≤ 140737488351232) (h2 : rs.size ≤ 140737488351232) (h3 : ch.size ≤ 140737488351232) :
    lodestonelaw12_AnchorPuts.f 62 g e tn nx pl rs fr ma ch odd = some true := by
  have m1 : IntKind.u64.min = 0 := rfl
  have m2 : IntKind.u64.max = 18446744073709551615 := rfl
  have m3 : IntKind.u32.min = 0 := rfl
  have m4 : IntKind.u32.max = 4294967295 := rfl
  simp only [Lit.wf, Bool.and_eq_true, decide_eq_true_eq] at hg he
  obtain ⟨tn', nx', pl', rs', fr', ma', ch', hn⟩ := near_some g e tn nx pl rs fr ma ch odd h1 h2 h3
  unfold lodestonelaw12_AnchorPuts.f
  rw [hn, Option.bind_some]
  cases hb : mayB tn' nx' pl' rs' fr' ma' ch' with
  | true =>
    have hk : Ok g e pl' fr' ma' nx' rs' ch' := ok_of (by omega) (by omega) (by omega) (by omega) hb
    have hz := body_size (tn := tn') hk
    obtain ⟨B, hB⟩ : ∃ B, body g e tn' nx' pl' rs' fr' ma' ch' = B := ⟨_, rfl⟩
    have hp := put_ok hk hb
    have hr := ref_ok hk hb
    have hq := get_ok hk hb
    rw [hB] at hz hp hr hq
    have hne : B.toList ≠ [] := fun e2 => by
      have e3 : B = em := toList_inj.mp (e2.trans em_nil.symm)
      have e4 : em.size = 0 := rfl
      rw [e3] at hz
      omega
    show ((anchor_Put.f 62 g e tn' nx' pl' rs' fr' ma' ch').bind _) = _
    rw [hp, Option.bind_some, hq, Option.bind_some, awake_62, Option.bind_some, if_pos rfl]
    show ((lodestoneref12_Put.f 62 g e tn' nx' pl' rs' fr' ma' ch').bind _) = _
    rw [hr, Option.bind_some, if_pos rfl]
    show ((anchor_May.f g e tn' nx' pl' rs' fr' ma' ch').bind _) = _
    rw [show anchor_May.f g e tn' nx' pl' rs' fr' ma' ch' = some true from congrArg some hb, Option.bind_some, show (B.toList != ([] : List UInt8)) = true from bne_iff_ne.mpr hne, if_neg (by decide), if_neg (by omega), if_neg hne, if_pos rfl]
    simp
  | false =>
    have hp : anchor_Put.f 62 g e tn' nx' pl' rs' fr' ma' ch' = some em := by
      unfold anchor_Put.f
      rw [show anchor_May.f g e tn' nx' pl' rs' fr' ma' ch' = some false from congrArg some hb, Option.bind_some, if_neg (by decide)]
    have hr : lodestoneref12_Put.f 62 g e tn' nx' pl' rs' fr' ma' ch' = some em := by
      unfold lodestoneref12_Put.f
      rw [show lodestoneref12_May.f g e tn' nx' pl' rs' fr' ma' ch' = some false from congrArg some hb, Option.bind_some, if_neg (by decide)]
    show ((anchor_Put.f 62 g e tn' nx' pl' rs' fr' ma' ch').bind _) = _
    rw [hp, Option.bind_some, get_em, Option.bind_some, awake_62, Option.bind_some, if_pos rfl]
    show ((lodestoneref12_Put.f 62 g e tn' nx' pl' rs' fr' ma' ch').bind _) = _
    rw [hr, Option.bind_some, if_pos rfl]
    show ((anchor_May.f g e tn' nx' pl' rs' fr' ma' ch').bind _) = _
    rw [show anchor_May.f g e tn' nx' pl' rs' fr' ma' ch' = some false from congrArg some hb, Option.bind_some, em_nil, if_neg (by decide), if_neg (by decide), if_pos rfl]
    rfl
end Go.Proofs.Ytjmcokidiojanaa.Pure
