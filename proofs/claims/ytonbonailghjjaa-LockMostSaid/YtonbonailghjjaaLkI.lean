/- So many things one holds, and no more: the names and the tables, plain. -/
import Derived.Test.YtonbonailghjjaaLkH
namespace Go.Proofs.Ytonbonailghjjaa.Lk
open Go.RowKit Go.Proofs.YtonbonailghjjaaW.PrintWords Go.Proofs.YtonbonailghjjaaW.PrintLast Go.Proofs.YtonbonailghjjaaW.PrintMore Go.Proofs.Ytonbonailghjjaa.XB Go.Proofs.Ytonbonailghjjaa.PLockMost
attribute [local go_sem] max2_int min2_int max_two min_two max_three min_three max_four min_four
set_option linter.unusedVariables false
set_option linter.unusedSimpArgs false
variable {w w' : World} {p : At} {rv : Value} {l : List S51}
def nm (i : Nat) : ByteArray := strOfNums [97 + (i : Int) % 16, 97 + (i : Int) / 16 % 16, 97 + (i : Int) / 256]
def tabl (i : Nat) : List S51 := (List.range (min i 512)).map (fun q => ⟨nm q, [2], 0⟩)
theorem nm_ne {q i : Nat} (hq : q < i) (hi : i < 516) : (nm q).toList ≠ (nm i).toList := by
  rw [toList_data, toList_data]
  simp only [nm, strOfNums, List.map_cons, List.map_nil]
  intro e
  injection e with e1 e2
  injection e2 with e2 e3
  injection e3 with e3 _
  have u1 := congrArg UInt8.toNat e1
  have u2 := congrArg UInt8.toNat e2
  have u3 := congrArg UInt8.toNat e3
  simp only [UInt8.toNat_ofNat'] at u1 u2 u3
  omega
theorem nm_some (i : Nat) : (nm i).toList ≠ [] := by
  rw [toList_data]
  simp [nm, strOfNums]
theorem tabl_len (i : Nat) : (tabl i).length = min i 512 := by simp [tabl]
theorem tabl_two (i : Nat) : ∀ x ∈ tabl i, x.f1 = [2] := by
  intro x hx
  obtain ⟨q, _, rfl⟩ := List.mem_map.mp hx
  rfl
theorem tabl_how (i : Nat) : ∀ x ∈ tabl i, x.f2 = 0 ∨ x.f2 = 1 := by
  intro x hx
  obtain ⟨q, _, rfl⟩ := List.mem_map.mp hx
  exact .inl rfl
theorem tabl_rd (i q : Nat) (hq : q < min i 512) : rd_T51 (tabl i) (q : Int) = ⟨nm q, [2], 0⟩ := by
  simp [rd_T51, tabl, List.getD_eq_getElem?_getD, List.getElem?_map, List.getElem?_range hq]
theorem held_two (l : List S51) (h : ∀ x ∈ l, x.f1 = [2]) : held l 2 = l.length := by
  unfold held
  rw [List.filter_eq_self.mpr]
  intro x hx
  rw [h x hx]; decide
theorem freed_two (l : List S51) (h : ∀ x ∈ l, x.f1 = [2]) : freed 2 l = [] := by
  unfold freed
  refine List.filter_eq_nil_iff.mpr fun x hx => ?_
  obtain ⟨y, hy, rfl⟩ := List.mem_map.mp hx
  rw [h y hy]; simp [but]
theorem tabl_idx (i : Nat) (hi : i < 516) : idx (nm i) (tabl i) = -1 := by
  refine idx_none fun q hq => ?_
  rw [tabl_len] at hq
  rw [tabl_rd i q hq]
  exact beq_eq_false_iff_ne.mpr (nm_ne (by omega) hi)
theorem tabl_succ (i : Nat) (hi : i < 512) : tabl (i + 1) = tabl i ++ [⟨nm i, [2], howI false⟩] := by
  unfold tabl
  rw [show min (i + 1) 512 = i + 1 by omega, show min i 512 = i by omega, List.range_succ, List.map_append]
  rfl
theorem tabl_full (i : Nat) (hi : 512 ≤ i) : tabl (i + 1) = tabl i := by
  unfold tabl
  rw [show min (i + 1) 512 = 512 by omega, show min i 512 = 512 by omega]
theorem tabl_aaa (i : Nat) (hi : 512 ≤ i) : idx ⟨#[97, 97, 97]⟩ (tabl i) = ((0 : Nat) : Int) := by
  refine idx_at (by rw [tabl_len]; omega) ?_ (fun q hq => absurd hq (Nat.not_lt_zero q))
  rw [tabl_rd i 0 (by omega)]
  exact isB_self _ _ (by decide)
theorem three_str {W : World} {b : Nat} {x y z : Int} (h : W.heap[b]? = some (.cells #[.int .u8 x, .int .u8 y, .int .u8 z] 5 (0, 0))) : (convert 42 9 (.slice (some ⟨b, 0, none⟩) 3 3)).run Try.prog W = .ok (.string (strOfNums [x, y, z])) W := by
  refine Kd.C_string (e := 5) Try.underlying42 Try.underlying5 Try.underlying9 ?_
  have hR : Kd.R (Kd.int .u8) 5 W 0 (fun _ => True) (.slice (some ⟨b, 0, none⟩) 3 3) [x, y, z] :=
    Kd.R_of_own ⟨rfl, .inr ⟨b, 3, #[.int .u8 x, .int .u8 y, .int .u8 z], rfl, Nat.zero_le _, h, Nat.le_refl _, by decide, rfl, rfl⟩⟩ fun k hk => trivial
  exact (Kd.R_reads' hR).2.2
theorem and3 (x : Int) : ∃ (r : Int) (k : Nat), 512 ≤ k ∧ k < 516 ∧ Go.bits .and .i64 x 3 = r ∧ wrap64 (512 + r) = (k : Int) ∧ IntKind.i64.wrap (512 + r) = (k : Int) := by
  have h := and_mask64 x 2 (by decide) (by decide)
  have e1 : ((2 ^ 2 - 1 : Nat) : Int) = 3 := by decide
  have e2 : ((2 ^ 2 : Nat) : Int) = 4 := by decide
  rw [e1, e2] at h
  refine ⟨x % 4, (512 + x % 4).toNat, by omega, by omega, h, ?_, ?_⟩
  · rw [w64 (by omega) (by omega)]
    omega
  · rw [IntKind.wrap_i64]
    omega
theorem and15 (a : Nat) : Go.bits .and .i64 (a : Int) 15 = ((a % 16 : Nat) : Int) := by
  have h := and_mask64 (a : Int) 4 (by decide) (by decide)
  have e1 : ((2 ^ 4 - 1 : Nat) : Int) = 15 := by decide
  have e2 : ((2 ^ 4 : Nat) : Int) = 16 := by decide
  rw [e1, e2] at h
  rw [h]; omega
end Go.Proofs.Ytonbonailghjjaa.Lk
