/- Slices of texts repeated (slices.Repeat at one text), walked. -/
import Derived.Test.YtaomjdgdkdkibaaPDiskNonex1
import Derived.Test.YtaomjdgdkdkibaaXB
import Derived.Laws.CopyOwn
import Derived.Laws.MakeOwn
import Derived.LoopTactic
namespace Go.Proofs.Ytaomjdgdkdkibaa.Dk
open Go.RowKit Go.Proofs.YtaomjdgdkdkibaaW.PrintWords Go.Proofs.YtaomjdgdkdkibaaW.PrintLast Go.Proofs.YtaomjdgdkdkibaaW.PrintMore Go.Proofs.Ytaomjdgdkdkibaa.XB Go.Proofs.Ytaomjdgdkdkibaa.PDiskNone
attribute [local go_sem] max2_int min2_int max_two min_two max_three min_three max_four min_four
set_option linter.unusedVariables false
set_option linter.unusedSimpArgs false
theorem info9 : (Try.prog.info? 9).map (fun i => (i.zero, i.size, i.bytes)) = some (some (.string ⟨#[]⟩), 1, 16) := by kernel_rfl
theorem size9 : (Try.prog.info? 9).map (·.size) = some 1 := by kernel_rfl
theorem mul_one (n : Nat) (h : n ≤ 4096) : bits_Mul.f 1 (n : Int) = some (0, (n : Int)) := by
  have h1 : Go.bits .and .u64 (n : Int) 4294967295 = (n : Int) := by
    have := and_u64 (n : Int) 32 (by omega) (by omega) (by omega)
    have e : (((2 ^ 32 - 1 : Nat) : Nat) : Int) = 4294967295 := by decide
    rw [e] at this
    rw [this]
    have e2 : ((2 ^ 32 : Nat) : Int) = 4294967296 := by decide
    rw [e2]
    omega
  have h2 : Go.bits .and .u64 1 4294967295 = 1 := by
    have := and_u64 (1 : Int) 32 (by omega) (by omega) (by omega)
    have e : (((2 ^ 32 - 1 : Nat) : Nat) : Int) = 4294967295 := by decide
    rw [e] at this
    rw [this]
    decide
  have h3 : (1 : Int) / 4294967296 = 0 := by decide
  have h4 : (n : Int) / 4294967296 = 0 := by omega
  have h0 : Go.bits .and .u64 0 4294967295 = 0 := by
    have := and_u64 (0 : Int) 32 (by omega) (by omega) (by omega)
    have e : (((2 ^ 32 - 1 : Nat) : Nat) : Int) = 4294967295 := by decide
    rw [e] at this
    rw [this]
    decide
  have wn : IntKind.u64.wrap (n : Int) = n := wu64s (by omega) (by omega)
  have w0 : IntKind.u64.wrap 0 = 0 := by decide
  unfold bits_Mul.f bits_Mul64.f
  simp only [h1, h2, h3, h4, h0, wn, w0, Int.zero_mul, Int.one_mul, Int.mul_zero, Int.add_zero, Int.zero_add, Int.zero_ediv, obs]
theorem made_rep (v : Value) (n : Nat) : madeCells #[v] n = (List.replicate n v).toArray := by
  apply Array.ext
  · simp [size_madeCells]
  · intro i h1 h2
    simp [madeCells, Nat.mod_one]
/-- n texts, of which the first k are z -/
def rep (z : ByteArray) (k n : Nat) : List Value := List.replicate k (.string z) ++ List.replicate (n - k) (.string ⟨#[]⟩)
theorem rep_len (z : ByteArray) (k n : Nat) (h : k ≤ n) : (rep z k n).length = n := by simp [rep]; omega
theorem rep_splice (z : ByteArray) (k m n : Nat) (h : k + m ≤ n) : splice (rep z k n) k (List.replicate m (.string z)) = rep z (k + m) n := by
  unfold splice rep
  rw [List.take_left' (by simp), List.length_replicate, ← List.append_assoc, List.replicate_append_replicate]
  congr 1
  rw [List.drop_append]
  simp
  omega
theorem rep_get (z : ByteArray) (k n j : Nat) (h : j < k) : (rep z k n)[j]? = some (.string z) := by
  unfold rep
  rw [List.getElem?_append_left (by simpa using h), List.getElem?_replicate, if_pos h]
theorem measn' {n k m : Nat} (h : k < n) (hm : 0 < m) (h2 : k + m ≤ n) : n - (((k + m : Nat) : Int)).toNat < n - ((k : Int)).toNat := by omega
theorem measn {n k m : Nat} (h : k < n) (hm : 0 < m) : n - ((k : Int) + (m : Nat)).toNat < n - ((k : Int)).toNat := by omega
theorem copy_rep (z : ByteArray) (k m n g : Nat) (W : World) (hg : W.heap[g]? = some (.cells (rep z k n).toArray 9 (0, 0))) (hkn : k ≤ n) (hm : m = Nat.min k (n - k)) :
    ∃ w4, (Builtin.copy_ #[41, 41] 3 #[.slice (some ⟨g, k, none⟩) (n - k) (n - k), .slice (some ⟨g, 0, none⟩) k n]).run Try.prog W = .ok (.int .i64 (m : Int)) w4 ∧ w4.heap[g]? = some (.cells (rep z (k + m) n).toArray 9 (0, 0)) ∧
      ∀ (B : Nat) (w0 : World), Below B w0 W → B ≤ g → Below B w0 w4 := by
  have hmk : m ≤ k := by rw [hm]; exact Nat.min_le_left _ _
  have hm1' : m ≤ n - k := by rw [hm]; exact Nat.min_le_right k (n - k)
  have hm1 : k + m ≤ n := by omega
  have hl : (List.replicate m (Value.string z)).length = m := List.length_replicate
  have h := run_copy_row (P := Try.prog) W 41 41 3 9 g k (n - k) (n - k) ⟨g, 0, none⟩ k n (rep z k n).toArray 9 (List.replicate m (Value.string z)) Try.underlying41 size9 hg (by rw [hl]; exact hm)
    (by
      intro j v hj
      rw [List.getElem?_replicate] at hj
      split at hj
      · rename_i hjm
        obtain rfl := Option.some.inj hj
        rw [add_plain, cell_of_row W g j (rep z k n).toArray 9 (0, 0) hg, List.getElem?_toArray]
        exact rep_get z k n j (by omega)
      · cases hj)
    (by rw [hl, List.size_toArray, rep_len _ _ _ hkn]; exact hm1)
    (by intro v hv; obtain rfl := List.eq_of_mem_replicate hv; rfl)
  rw [hl] at h
  refine ⟨_, h, ?_, fun B w0 hb hB => below_setRow hb hB _⟩
  rw [← rep_splice z k m n hm1]
  have h2 := setRow_heap W g (rep z k n).toArray ((rep z k n).toArray.toList.take k ++ List.replicate m (Value.string z) ++ (rep z k n).toArray.toList.drop (k + m)).toArray 9 _ hg
  rw [h2]
  simp only [splice, List.append_assoc, hl]
set_option maxHeartbeats 8000000 in
set_option maxRecDepth 100000 in
theorem repeat_calls (z : ByteArray) (n : Nat) (h1 : 1 ≤ n) (hn : n ≤ 4096) (b c : Nat) (w : World) (hc : w.cell? ⟨b, 0, none⟩ = some (.string z)) (lt : b < w.heap.size) (hcap : 1 ≤ c) :
    Calls Try.prog 20 #[.slice (some ⟨b, 0, none⟩) 1 c, .int .i64 n] w fun e w' => ∃ g, e = .returned (.slice (some ⟨g, 0, none⟩) n n) ∧ w.heap.size ≤ g ∧ w'.heap[g]? = some (.cells (rep z n n).toArray 9 (0, 0)) ∧ Below w.heap.size w w' := by
  have hmk := fun W : World => run_make_row' (P := Try.prog) 41 9 (.string ⟨#[]⟩) 16 Try.underlying41 info9 rfl .i64 .i64 n (by omega) (by omega) W
  have HC := Aside0.mk hc
  have LT := Aside0.mk lt
  have HM := Aside0.mk (mul_one n hn)
  clear hc lt
  have wn : IntKind.u64.wrap (n : Int) = n := wu64s (by omega) (by omega)
  have wi : IntKind.i64.wrap (n : Int) = n := by rw [IntKind.wrap_i64]; omega
  have w6 : wrap64 (n : Int) = n := w64 (by omega) (by omega)
  have w1 : IntKind.u64.wrap 1 = 1 := by decide
  have q0 : decide ((n : Int) < 0) = false := decide_eq_false (by omega)
  have q1 : decide ((9223372036854775807 : Int) < (n : Int)) = false := decide_eq_false (by omega)
  go_enter Try.func20, Try.ntmps20
  go_wp2_with (first | (go_at_call 26; fail))
  refine (bits_Mul.calls 1 (n : Int) 0 (n : Int) _ HM.out).mono ?_
  rintro e w2 ⟨rfl, nd, rfl⟩
  have e0 := made_rep (.string ⟨#[]⟩) n
  have HZ := Aside0.mk (show ∀ W : World, (W.alloc (.cells (madeCells #[.string ⟨#[]⟩] n) 9)).heap[W.heap.size]? = some (.cells (List.replicate n (.string ⟨#[]⟩)).toArray 9 (0, 0)) from fun W => by rw [← e0]; exact heap_alloc_new W _)
  clear e0
  go_wp2_with ((with_reducible refine gate_dst (N := 33) rfl ?_); go_loud (refine wpList_copy_splice rfl (.tmp 31) (.tmp 32) 41 41 rfl 9 Try.underlying41 size9 (some ⟨w.heap.size, 0, none⟩) (some ⟨b, 0, none⟩) n n 1 c ?hd ?hs w.heap.size 0 (List.replicate n (.string ⟨#[]⟩)) 9 ?hg [.string z] ?hn ?hpos ?hfit ?h1 w.heap.size w ?hb (Nat.le_refl _) ?_))
  case hd => rfl
  case hs => rfl
  case hg => exact HZ.out _
  case hn => exact (Nat.min_eq_left h1).symm
  case hpos =>
    intro j v hj
    match j, hj with
    | 0, hj =>
      obtain rfl := Option.some.inj hj
      exact pw_cell_below (by (with_reducible repeat (first | apply below_alloc | apply pw_below_drewN | apply below_drew1)); exact Below.refl _ _) HC.out
  case hfit => simp; omega
  case h1 => intro v hv; obtain rfl := List.mem_singleton.mp hv; rfl
  case hb => (with_reducible repeat (first | apply below_alloc | apply pw_below_drewN | apply below_drew1)); exact Below.refl _ _
  intro w3 hg hb
  have HG := Aside0.mk (show w3.heap[w.heap.size]? = some (.cells (rep z 1 n).toArray 9 (0, 0)) from by
    have h := hg.out
    rw [show splice (List.replicate n (Value.string ⟨#[]⟩)) 0 [.string z] = rep z 1 n from by
      have := rep_splice z 0 1 n (by omega)
      simpa [rep] using this] at h
    exact h)
  have HB := Aside0.mk hb
  clear hg hb HZ hmk HC HM LT
  go_wp2
  go_loopw [8] (fun i w' => ∃ k : Nat, 1 ≤ k ∧ k ≤ n ∧ i = .int .i64 (k : Int) ∧ Aside0 (w'.heap[w.heap.size]? = some (.cells (rep z k n).toArray 9 (0, 0))) ∧ Aside0 (Below w.heap.size w w')) (fun i _ => n - (intOf i).toNat)
  case atStart => exact ⟨1, Nat.le_refl _, h1, rfl, HG, HB⟩
  case round =>
    clear HG HB
    obtain ⟨k, hk1, hkn, rfl, HG, HB⟩ := hrel
    by_cases hlt : k < n
    · have c0 : decide ((k : Int) < (n : Int)) = true := decide_eq_true (by omega)
      have c0n : decide (k < n) = true := decide_eq_true hlt
      have p0 : (0 : Int) ≤ (k : Int) := by omega
      have p1 : (k : Int) ≤ (n : Int) := by omega
      have p2 : ((k : Int)).toNat = k := Int.toNat_natCast k
      have p3 : ¬ n = k := by omega
      have p4 : ¬ n ≤ k := by omega
      obtain ⟨m, hm⟩ : ∃ m, m = Nat.min k (n - k) := ⟨_, rfl⟩
      have hm0 : 0 < m := by rw [hm]; exact Nat.lt_min.mpr ⟨hk1, by omega⟩
      have hm1' : m ≤ n - k := by rw [hm]; exact Nat.min_le_right k (n - k)
      have hm1 : k + m ≤ n := by omega
      have hmk : m ≤ k := by rw [hm]; exact Nat.min_le_left _ _
      have HM := Aside0.mk hm
      clear hm
      have wk : wrap64 ((k : Int) + (m : Int)) = ((k + m : Nat) : Int) := by unfold wrap64; omega
      obtain ⟨w4, hrun, hg4, hb4⟩ := copy_rep z k m n w.heap.size wr.drew HG.out hkn HM.out
      have HG4 := Aside0.mk hg4
      have HB4 := Aside0.mk (hb4 w.heap.size w (below_drew1 HB.out) (Nat.le_refl _))
      clear hg4 hb4 HG HB HM hm1'
      go_wp2
      go_region
      go_wp2
      go_roundw
      case measure => exact measn' hlt hm0 hm1
      case rel => exact ⟨k + m, by omega, hm1, by first | rfl | simp, HG4, HB4⟩
    · have c0 : decide ((k : Int) < (n : Int)) = false := decide_eq_false (by omega)
      have c0n : decide (k < n) = false := decide_eq_false hlt
      obtain rfl : k = n := by omega
      go_wp2
      go_ret
      exact ⟨w.heap.size, rfl, Nat.le_refl _, HG.out, HB.out⟩
end Go.Proofs.Ytaomjdgdkdkibaa.Dk
