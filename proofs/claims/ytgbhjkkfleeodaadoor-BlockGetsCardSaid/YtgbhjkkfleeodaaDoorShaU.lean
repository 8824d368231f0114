import Derived.Test.YtgbhjkkfleeodaaDoorShaT
namespace Go.Proofs.YtgbhjkkfleeodaaDoor.Sha
open Go.RowKit Go.Proofs.YtgbhjkkfleeodaaDoorW.PrintWords Go.Proofs.YtgbhjkkfleeodaaDoorW.PrintLast Go.Proofs.YtgbhjkkfleeodaaDoorW.PrintMore Go.Proofs.YtgbhjkkfleeodaaDoor.XA Go.Proofs.YtgbhjkkfleeodaaDoor.XM
open Go.Proofs.YtgbhjkkfleeodaaDoor.XB
set_option linter.unusedVariables false
set_option linter.unusedSimpArgs false
def AU (xs : List Int) : Prop := ∀ x ∈ xs, U x
theorem AU.getD {xs : List Int} (h : AU xs) (i : Nat) : U (xs.getD i 0) := by
  rw [List.getD_eq_getElem?_getD]
  cases hq : xs[i]? with
  | none => exact ⟨by decide, by decide⟩
  | some x => exact h x (List.mem_of_getElem? hq)
theorem AU.set {xs : List Int} (h : AU xs) (i : Nat) {v : Int} (hv : U v) : AU (xs.set i v) := by
  intro x hx
  rcases List.mem_or_eq_of_mem_set hx with h1 | rfl
  · exact h x h1
  · exact hv
theorem bytesOf_U (s : ByteArray) (i : Nat) : 0 ≤ (bytesOf s).getD i 0 ∧ (bytesOf s).getD i 0 ≤ 255 := by
  have h : rd (bytesOf s) ((i : Nat) : Int) = bt s i := rd_bytesOf _ _
  have h2 := bt_range s (i : Int)
  rw [← h] at h2
  exact h2
theorem inn_U {x : Int} (hx : U x) (s : ByteArray) (j : Nat) : U (inn x (bytesOf s) j) := by
  cases j with
  | zero => exact hx
  | succ j => exact (U_bits (U_mod _) (by have := bytesOf_U s j; unfold U; omega)).2.1
theorem sp_U (s : ByteArray) (i : Nat) : AU (sp s i) := by
  induction i with
  | zero => intro x hx; rw [List.eq_of_mem_replicate hx]; exact ⟨by decide, by decide⟩
  | succ i ih =>
    refine ih.set i ?_
    split
    · exact inn_U (ih.getD _) _ _
    · exact U_mod _
theorem step_U {x : List Int} (h : AU x) (s w : Int) : AU (step x s w) := by
  unfold step
  split
  · simp only [AU, List.mem_cons, List.not_mem_nil, or_false] at h ⊢
    rintro y (rfl | rfl | rfl | rfl | rfl | rfl | rfl | rfl)
    · exact U_mod _
    · exact h _ (by simp)
    · exact h _ (by simp)
    · exact h _ (by simp)
    · exact U_mod _
    · exact h _ (by simp)
    · exact h _ (by simp)
    · exact h _ (by simp)
  · exact h
theorem st_U {h : List Int} (hh : AU h) (ss ws : List Int) (k : Nat) : AU (st h ss ws k) := by
  induction k with
  | zero => exact hh
  | succ k ih => exact step_U ih _ _
theorem addUp_U {h xs : List Int} (hh : AU h) (k : Nat) : AU (addUp h xs k) := by
  induction k with
  | zero => exact hh
  | succ k ih => exact ih.set _ (U_mod _)
theorem h0L_U : AU h0L := by simp [AU, h0L, U]
theorem sums_U (ss : List Int) (t : ByteArray) (j : Nat) : AU (sums ss t j) := by
  induction j with
  | zero => exact h0L_U
  | succ j ih => exact addUp_U ih 8
theorem sp_zero (s : ByteArray) (k i : Nat) (hi : k ≤ i) : (sp s k).getD i 0 = 0 := by
  induction k with
  | zero => simp only [sp, List.getD_eq_getElem?_getD, List.getElem?_replicate]; split <;> rfl
  | succ k ih =>
    rw [sp, List.getD_eq_getElem?_getD, List.getElem?_set_ne (by omega), ← List.getD_eq_getElem?_getD]
    exact ih (by omega)
theorem orb {y b : Int} (h0 : 0 ≤ y) (h1 : y < 16777216) (hb : 0 ≤ b ∧ b ≤ 255) : Go.bits .or .u32 (y * 256 % 4294967296) b = y * 256 + b := by
  have e : y * 256 % 4294967296 = y * 2 ^ 8 := by simp only [Int.reducePow]; omega
  rw [e, (or_add (x := b) (y := y) 8 (by unfold U; omega) (by unfold U; simp only [Int.reducePow]; omega) h0 (by simp only [Int.reducePow]; omega)).2]
  simp only [Int.reducePow]
  omega
theorem inn_four (s : ByteArray) : inn 0 (bytesOf s) 4 = (bytesOf s).getD 0 0 * 16777216 + (bytesOf s).getD 1 0 * 65536 + (bytesOf s).getD 2 0 * 256 + (bytesOf s).getD 3 0 := by
  have b0 := bytesOf_U s 0
  have b1 := bytesOf_U s 1
  have b2 := bytesOf_U s 2
  have b3 := bytesOf_U s 3
  generalize e : bytesOf s = bs at *
  have i1 : inn 0 bs 1 = bs.getD 0 0 := by
    show Go.bits .or .u32 (0 * 256 % 4294967296) (bs.getD 0 0) = _
    rw [orb (by omega) (by omega) b0]; omega
  have i2 : inn 0 bs 2 = bs.getD 0 0 * 256 + bs.getD 1 0 := by
    show Go.bits .or .u32 (inn 0 bs 1 * 256 % 4294967296) (bs.getD 1 0) = _
    rw [i1, orb (by omega) (by omega) b1]
  have i3 : inn 0 bs 3 = (bs.getD 0 0 * 256 + bs.getD 1 0) * 256 + bs.getD 2 0 := by
    show Go.bits .or .u32 (inn 0 bs 2 * 256 % 4294967296) (bs.getD 2 0) = _
    rw [i2, orb (by omega) (by omega) b2]
  show Go.bits .or .u32 (inn 0 bs 3 * 256 % 4294967296) (bs.getD 3 0) = _
  rw [i3, orb (by omega) (by omega) b3]
  omega
theorem sub4_bytes (s : ByteArray) (k j : Nat) (hj : j < 4) : (bytesOf (sub4 s k)).getD j 0 = bt s ((4 * k + j : Nat) : Int) := by
  rw [← rd_bytesOf]
  show _ = (bytesOf s).getD (4 * k + j) 0
  have e : bytesOf (sub4 s k) = ((bytesOf s).drop (4 * k)).take 4 := by
    unfold sub4 bytesOf
    rw [extract_data]
    simp [List.map_take, List.map_drop]
  rw [e, List.getD_eq_getElem?_getD, List.getD_eq_getElem?_getD, List.getElem?_take, if_pos hj, List.getElem?_drop]
theorem madeA : madeCells #[.int .u32 0] 64 = arrK .u32 (List.replicate 64 0) := by kernel_rfl
end Go.Proofs.YtgbhjkkfleeodaaDoor.Sha
