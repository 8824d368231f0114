/- Changes by their keys, in memory; sort.Search, at, walked. -/
import Derived.Test.YtdkepbmpcbnkpaaPDeltaPlaysx2
import Derived.Test.YtdkepbmpcbnkpaaXB
import Derived.Sort.Walk0
import Derived.Laws.Cover1
namespace Go.Proofs.Ytdkepbmpcbnkpaa.Dl
open Go.RowKit Go.Proofs.YtdkepbmpcbnkpaaW.PrintWords Go.Proofs.YtdkepbmpcbnkpaaW.PrintLast Go.Proofs.YtdkepbmpcbnkpaaW.PrintMore Go.Proofs.Ytdkepbmpcbnkpaa.XB Go.Proofs.Ytdkepbmpcbnkpaa.PDeltaPlays
attribute [local go_sem] max2_int min2_int max_two min_two max_three min_three max_four min_four
set_option linter.unusedVariables false
set_option linter.unusedSimpArgs false
/-- where changes lie: their cell; all from B on -/
structure At where
  g : Nat
  B : Nat
structure Ch (w : World) (p : At) (rv : Value) (l : List S26) : Prop where
  cells : w.heap[p.g]? = some (.cells #[rv] 50 (0, 0))
  row : Kd.R k26 26 w p.B (fun k => k ≠ p.g) rv l
  bg : p.B ≤ p.g
  small : l.length < 1000
variable {w w' : World} {p : At} {rv : Value} {l : List S26}
theorem Ch.below (h : Ch w p rv l) (hb : Below w.heap.size w w') : Ch w' p rv l := ⟨blk_below h.cells hb, Kd.R_below h.row hb, h.bg, h.small⟩
theorem Ch.base (h : Ch w p rv l) : p.B ≤ w.heap.size := Nat.le_trans h.bg (Nat.le_of_lt (blk_lt h.cells))
/-- what lies elsewhere is as it was -/
def Far (g : Nat) (own : Option Nat) (w w' : World) : Prop := ∀ q, q < w.heap.size → q ≠ g → some q ≠ own → w'.heap[q]? = w.heap[q]?
/-- is this change's key below that one? -/
def lt (x : S26) (key : ByteArray) : Bool := Op.bytesLess x.f0.toList key.toList
/-- how many keys are below one -/
def atN (l : List S26) (key : ByteArray) : Nat := l.countP (fun x => lt x key)
theorem atN_le (l : List S26) (key : ByteArray) : atN l key ≤ l.length := List.countP_le_length
theorem rd_get {l : List S26} {j : Nat} (hj : j < l.length) : rd_T26 l (j : Int) = l[j] := by simp [rd_T26, List.getD_eq_getElem?_getD, List.getElem?_eq_getElem hj]
/-- those below a place are below the key, the others are not -/
theorem atN_cut {l : List S26} {key : ByteArray} {n : Nat} (hn : n ≤ l.length) (h1 : ∀ t : Nat, t < n → lt (rd_T26 l (t : Int)) key = true) (h2 : ∀ t : Nat, n ≤ t → t < l.length → lt (rd_T26 l (t : Int)) key = false) : atN l key = n := by
  unfold atN
  rw [← List.take_append_drop n l, List.countP_append]
  have e1 : (l.take n).countP (fun x => lt x key) = n := by
    rw [List.countP_eq_length.mpr, List.length_take, Nat.min_eq_left hn]
    intro x hx
    obtain ⟨q, hq, rfl⟩ := List.getElem_of_mem hx
    rw [List.length_take] at hq
    have := h1 q (by omega)
    rw [rd_get (by omega)] at this
    rw [List.getElem_take]
    exact this
  have e2 : (l.drop n).countP (fun x => lt x key) = 0 := by
    rw [List.countP_eq_zero]
    intro x hx
    obtain ⟨q, hq, rfl⟩ := List.getElem_of_mem hx
    rw [List.length_drop] at hq
    have := h2 (n + q) (by omega) (by omega)
    rw [rd_get (by omega)] at this
    rw [List.getElem_drop, this]
    decide
  rw [e1, e2, Nat.add_zero]
/-- rising keys -/
def Rises (l : List S26) : Prop := l.Pairwise (fun a b => a.f0.toList < b.f0.toList)
theorem lt_iff (x : S26) (key : ByteArray) : lt x key = true ↔ x.f0.toList < key.toList := by unfold lt; rw [bytesLess_eq, decide_eq_true_eq]
theorem lt_mono {l : List S26} (h : Rises l) {key : ByteArray} {s t : Nat} (hst : s ≤ t) (ht : t < l.length) (hl : lt (rd_T26 l (t : Int)) key = true) : lt (rd_T26 l (s : Int)) key = true := by
  rcases Nat.lt_or_eq_of_le hst with c | rfl
  · rw [lt_iff] at hl ⊢
    rw [rd_get ht] at hl
    rw [rd_get (by omega)]
    exact List.lt_trans (List.pairwise_iff_getElem.mp h s t (by omega) ht c) hl
  · exact hl
set_option maxHeartbeats 8000000 in
set_option maxRecDepth 100000 in
theorem lit_calls (h : Ch w p rv l) (key : ByteArray) (j : Nat) (hj : j < l.length) (a b : Addr) (ha : w.cell? a = some (.pointer (some ⟨p.g, 0, none⟩))) (hb : w.cell? b = some (.string key)) :
    Calls Try.prog 25 #[.int .i64 (j : Int), .pointer (some a), .pointer (some b)] w fun e w' => e = .returned (.bool (!(lt (rd_T26 l (j : Int)) key))) ∧ Below w.heap.size w w' := by
  obtain ⟨A, c, hrv, _, hC⟩ := Kd.R_reads h.row
  subst hrv
  have q2 : (0 : Int) ≤ j := by omega
  have q3 : (j : Int) < (l.length : Int) := by omega
  obtain ⟨ad, hA, h0, _, _⟩ := at_T26 hC (j : Int) q2 q3
  rw [Int.toNat_natCast] at h0
  subst hA
  have cg : w.cell? ⟨p.g, 0, none⟩ = some (.slice (some ad) l.length c) := blk_cell h.cells 0
  clear h hC
  go_enter Try.func25, Try.ntmps25
  go_wp2
  go_region
  go_wp2
  go_ret
  exact ⟨rfl, by (with_reducible repeat (first | exact Below.refl _ _ | apply pw_below_drewN | apply below_drew1))⟩
theorem mid_of {i j : Nat} (h : i < j) (hj : j < 1000) : ∃ (r r2 : Int) (d : Nat), wrap64 ((i : Int) + (j : Int)) = r ∧ IntKind.u64.wrap r = r2 ∧ wrap64 (r2 / 2) = (d : Int) ∧ i ≤ d ∧ d < j := by
  refine ⟨(i : Int) + (j : Int), (i : Int) + (j : Int), (i + j) / 2, w64 (by omega) (by omega), wu64s (by omega) (by omega), ?_, by omega, by omega⟩
  rw [w64 (by omega) (by omega)]
  omega
set_option maxHeartbeats 8000000 in
set_option maxRecDepth 100000 in
theorem search_calls (h : Ch w p rv l) (hr : Rises l) (key : ByteArray) (a b : Addr) (ha : w.cell? a = some (.pointer (some ⟨p.g, 0, none⟩))) (hb : w.cell? b = some (.string key)) :
    Calls Try.prog 24 #[.int .i64 (l.length : Int), .func (.func 25) #[] #[.pointer (some a), .pointer (some b)]] w fun e w' => e = .returned (.int .i64 (atN l key : Nat)) ∧ Below w.heap.size w w' := by
  have HH := Aside0.mk h
  have HR := Aside0.mk hr
  have HA := Aside0.mk ha
  have HBB := Aside0.mk hb
  have HS := Aside0.mk h.small
  clear h hr ha hb
  go_enter Try.func24, Try.ntmps24
  go_wp2
  go_loopw [5, 6] (fun lo hi w' => ∃ i j : Nat, i ≤ j ∧ j ≤ l.length ∧ lo = .int .i64 (i : Int) ∧ hi = .int .i64 (j : Int) ∧ Aside0 ((∀ t : Nat, t < i → lt (rd_T26 l (t : Int)) key = true) ∧ (∀ t : Nat, j ≤ t → t < l.length → lt (rd_T26 l (t : Int)) key = false) ∧ Below w.heap.size w w')) (fun lo hi _ => (intOf hi - intOf lo).toNat)
  case atStart => exact ⟨0, l.length, Nat.zero_le _, Nat.le_refl _, rfl, rfl, .mk ⟨fun t h => absurd h (Nat.not_lt_zero _), fun t h1 h2 => by omega, Below.refl _ _⟩⟩
  case round =>
    obtain ⟨i, j, hij, hj, rfl, rfl, HI⟩ := hrel
    by_cases hlt : i < j
    · have q0 : decide ((i : Int) < (j : Int)) = true := decide_eq_true (by omega)
      have q1 : decide (i < j) = true := decide_eq_true hlt
      obtain ⟨r, r2, d, e1, e2, e3, hd1, hd2⟩ := mid_of hlt (Nat.lt_of_le_of_lt hj HS.out)
      go_wp2_with (first | (go_at_call 25; fail))
      refine (lit_calls (HH.out.below HI.out.2.2) key d (by omega) a b (pw_cell_below HI.out.2.2 HA.out) (pw_cell_below HI.out.2.2 HBB.out)).mono ?_
      obtain ⟨bb, hbb⟩ : ∃ bb, lt (rd_T26 l (d : Int)) key = bb := ⟨_, rfl⟩
      rw [hbb]
      rintro e w2 ⟨rfl, hb⟩
      have HW := Aside0.mk (below_step HI.out.2.2 hb)
      have HD := Aside0.mk hbb
      have DW := Aside0.mk (show wrap64 ((d : Int) + 1) = ((d + 1 : Nat) : Int) from by have := HS.out; rw [w64 (by omega) (by omega)]; omega)
      clear hb hbb
      cases bb with
      | true =>
        go_wp2
        try rw [DW.out]
        exact ⟨⟨d + 1, j, by omega, hj, by first | rfl | go_num, rfl, .mk ⟨fun t ht => lt_mono HR.out (by omega) (by omega) HD.out, HI.out.2.1, HW.out⟩⟩, by simp only [intOf]; omega⟩
      | false =>
        go_wp2
        exact ⟨⟨i, d, hd1, by omega, rfl, rfl, .mk ⟨HI.out.1, fun t h1 h2 => by
          cases hc : lt (rd_T26 l (t : Int)) key with
          | false => rfl
          | true => rw [lt_mono HR.out h1 h2 hc] at HD; exact HD.out, HW.out⟩⟩, by simp only [intOf]; omega⟩
    · have hq : i = j := by omega
      subst hq
      have q0 : decide ((i : Int) < (i : Int)) = false := decide_eq_false (by omega)
      have q1 : decide (i < i) = false := decide_eq_false (by omega)
      have e1 := Aside0.mk (atN_cut hj HI.out.1 HI.out.2.1)
      go_wp2
      go_ret
      exact ⟨by rw [e1.out]; rfl, HI.out.2.2⟩
set_option maxHeartbeats 8000000 in
set_option maxRecDepth 100000 in
theorem at_calls (h : Ch w p rv l) (hr : Rises l) (key : ByteArray) :
    Calls Try.prog 21 #[.pointer (some ⟨p.g, 0, none⟩), .string key] w fun e w' => e = .returned (.int .i64 (atN l key : Nat)) ∧ Below w.heap.size w w' := by
  have HR := Aside0.mk hr
  have b0 := Aside0.mk (below_alloc (below_alloc (Below.refl w.heap.size w) (.cells #[.pointer (some ⟨p.g, 0, none⟩)] 23)) (.cells #[.string key] 9))
  have H2 := Aside0.mk (h.below b0.out)
  have n1 := blk_alloc (heap_alloc_new w (.cells #[.pointer (some ⟨p.g, 0, none⟩)] 23)) (.cells #[.string key] 9)
  have n2 := heap_alloc_new (w.alloc (.cells #[.pointer (some ⟨p.g, 0, none⟩)] 23)) (.cells #[.string key] 9)
  rw [World.size_alloc] at n2
  have z0 : ((w.alloc (.cells #[.pointer (some ⟨p.g, 0, none⟩)] 23)).alloc (.cells #[.string key] 9)).cell? ⟨w.heap.size, 0, none⟩ = some (.pointer (some ⟨p.g, 0, none⟩)) := blk_cell n1 0
  have z1 : ((w.alloc (.cells #[.pointer (some ⟨p.g, 0, none⟩)] 23)).alloc (.cells #[.string key] 9)).cell? ⟨w.heap.size + 1, 0, none⟩ = some (.string key) := blk_cell n2 0
  obtain ⟨A, c, hrv, _, _⟩ := Kd.R_reads h.row
  subst hrv
  have cg : ((w.alloc (.cells #[.pointer (some ⟨p.g, 0, none⟩)] 23)).alloc (.cells #[.string key] 9)).cell? ⟨p.g, 0, none⟩ = some (.slice A l.length c) := blk_cell H2.out.cells 0
  have Z0 := Aside0.mk z0
  have Z1 := Aside0.mk z1
  clear h hr n1 n2 z1
  go_enter Try.func21, Try.ntmps21
  go_wp2_with (first | (go_at_call 24; fail))
  refine (search_calls H2.out HR.out key ⟨w.heap.size, 0, none⟩ ⟨w.heap.size + 1, 0, none⟩ Z0.out Z1.out).mono ?_
  rintro e w2 ⟨rfl, hb⟩
  have HW := Aside0.mk (below_step b0.out hb)
  clear hb
  go_wp2
  go_ret
  exact ⟨rfl, HW.out⟩
end Go.Proofs.Ytdkepbmpcbnkpaa.Dl
