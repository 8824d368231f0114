/- A device made, and awake; the register's texts. -/
import Derived.Test.YtlgnljhhpheknaaDvE
namespace Go.Proofs.Ytlgnljhhpheknaa.Dv
open Go.RowKit Go.Proofs.YtlgnljhhpheknaaW.PrintWords Go.Proofs.YtlgnljhhpheknaaW.PrintLast Go.Proofs.YtlgnljhhpheknaaW.PrintMore Go.Proofs.Ytlgnljhhpheknaa.XB Go.Proofs.Ytlgnljhhpheknaa.PDeviceBumps
attribute [local go_sem] max2_int min2_int max_two min_two max_three min_three max_four min_four
set_option linter.unusedVariables false
set_option linter.unusedSimpArgs false
/-- a register's text of one byte -/
def wd (c : Int) : ByteArray := strOfNums (List.replicate 33 c)
theorem wd_size (c : Int) : (wd c).size = 33 := by rw [wd, strOfNums_size]; rfl
theorem set_rep (c : Int) (i m : Nat) : (List.replicate i c ++ List.replicate (m + 1) 0).set i c = List.replicate (i + 1) c ++ List.replicate m (0 : Int) := by
  rw [List.set_append_right _ _ (by simp), List.length_replicate, Nat.sub_self, List.replicate_succ (n := m), List.set_cons_zero, List.replicate_succ' (n := i), List.append_assoc]
  rfl
theorem word_l (c : Int) : ∀ m i : Nat, i + m = 33 → lodestonelaw08_word.l0 (m + 1) c (List.replicate i c ++ List.replicate m 0) (i : Int) = some (wd c)
  | 0, i, h => by
    obtain rfl : i = 33 := by omega
    rfl
  | m + 1, i, h => by
    have hl : ((List.replicate i c ++ List.replicate (m + 1) (0 : Int)).length : Int) = 33 := by simp; omega
    show (if (i : Int) < ((List.replicate i c ++ List.replicate (m + 1) (0 : Int)).length : Int) then (if (0 : Int) ≤ (i : Int) then (lodestonelaw08_word.l0 (m + 1) c ((List.replicate i c ++ List.replicate (m + 1) 0).set ((i : Int)).toNat c) (wrap64 ((i : Int) + 1))) else none) else some (strOfNums (List.replicate i c ++ List.replicate (m + 1) 0))) = some (wd c)
    rw [hl, if_pos (by omega), if_pos (by omega), Int.toNat_natCast, set_rep, w64 (by omega) (by omega)]
    exact word_l c m (i + 1) (by omega)
theorem word_f (c : Int) : lodestonelaw08_word.f 34 c = some (wd c) := by
  unfold lodestonelaw08_word.f
  rw [if_pos (by decide)]
  exact word_l c 33 0 rfl
theorem word_calls (c : Int) (w : World) : Calls Try.prog 7 #[.int .u8 c] w fun e w' => e = .returned (.string (wd c)) ∧ Below w.heap.size w w' := lodestonelaw08_word.calls 34 c (wd c) w (word_f c)
theorem conv33 (W : World) : (convert 39 9 (.slice (some ⟨W.heap.size, 0, none⟩) 33 33)).run Try.prog (W.alloc (.cells (madeCells #[.int .u8 0] 33) 5)) = .ok (.string (wd 0)) (W.alloc (.cells (madeCells #[.int .u8 0] 33) 5)) := by
  refine string_of_reads (e := 5) (xs := List.replicate 33 0) Try.underlying39 Try.underlying5 Try.underlying9 ?_
  have h := heap_alloc_new W (.cells (madeCells #[.int .u8 0] 33) 5)
  rw [made_rep] at h ⊢
  refine ⟨rfl, by decide, fun _ => ⟨_, rfl, fun j hj => ?_⟩⟩
  have hj' : j < 33 := hj
  rw [add_plain, blk_cell h j, List.getElem?_toArray, List.getElem?_replicate, if_pos hj']
  have e : (List.replicate 33 (0 : Int)).getD j 0 = 0 := by rw [List.getD_eq_getElem?_getD, List.getElem?_replicate, if_pos hj']; rfl
  rw [e]
theorem make33 (W : World) : (Instr.makeSlice 39 (.int .i64 33) (.int .i64 33)).run Try.prog W = .ok (.slice (some ⟨W.heap.size, 0, none⟩) 33 33) (W.alloc (.cells (madeCells #[.int .u8 0] 33) 5)) :=
  run_make_row' (P := Try.prog) 39 5 (.int .u8 0) 1 Try.underlying39 info5 rfl .i64 .i64 33 (by decide) (by decide) W
set_option maxHeartbeats 8000000 in
set_option maxRecDepth 100000 in
theorem dnew_calls (key : ByteArray) (g : Nat) (h : key.size = 32) (w : World) :
    Calls Try.prog 6 #[.string key, .pointer (some ⟨g, 0, none⟩)] w fun e w' => ∃ d, e = .returned (.tuple #[.pointer (some ⟨d, 0, none⟩), .int .i64 0]) ∧ w.heap.size ≤ d ∧ DevC w' d key (wd 0) 0 g ∧ Below w.heap.size w w' := by
  have hm := make33
  have hc := conv33
  have c0 : decide ((key.size : Int) = 32) = true := decide_eq_true (by omega)
  have c1 : decide (key.size = 32) = true := decide_eq_true h
  go_enter Try.func6, Try.ntmps6
  go_wp2
  go_ret2
  refine ⟨w.heap.size + 1, rfl, by omega, ?_, below_alloc (below_alloc (Below.refl _ _) _) _⟩
  have h := heap_alloc_new (w.alloc (.cells (madeCells #[.int .u8 0] 33) 5)) (.cells #[.string key, .string (wd 0), .int .u64 0, .pointer (some ⟨g, 0, none⟩)] 53)
  rw [World.size_alloc] at h
  exact h
/-- the key of a device that is made -/
def K0 : ByteArray := ⟨#[48, 49, 50, 51, 52, 53, 54, 55, 56, 57, 97, 98, 99, 100, 101, 102, 48, 49, 50, 51, 52, 53, 54, 55, 56, 57, 97, 98, 99, 100, 101, 102]⟩
set_option maxHeartbeats 8000000 in
set_option maxRecDepth 100000 in
theorem made_calls (A : Option Addr) (m c : Nat) (L : List S48) (w : World) (hr : Kd.C k48 w A m L) (hl : m * 16 ≤ 140737488355328) :
    Calls Try.prog 8 #[.slice A m c] w fun e w' => ∃ d g sv mv cv, e = .returned (.tuple #[.pointer (some ⟨d, 0, none⟩), .pointer (some ⟨g, 0, none⟩)]) ∧ w.heap.size ≤ g ∧ g < d ∧
      DevC w' d K0 (wd 0) 0 g ∧ DiskC w' g sv mv (.slice none 0 0) 0 cv false ∧ Cuts w' cv L w.heap.size g ∧ Below w.heap.size w w' := by
  have HR := Aside0.mk hr
  have HL := Aside0.mk hl
  clear hr hl
  go_enter Try.func8, Try.ntmps8
  go_wp2_with (first | (go_at_call 5; fail))
  refine (new_calls 2 (by decide) (by decide) A m c L w HR.out HL.out).mono ?_
  rintro e w1 ⟨g, s, mv, cv, rfl, h1, h2, h3, hd, hs, hm, hc, hb⟩
  have HD := Aside0.mk hd
  have HC := Aside0.mk hc
  have HB := Aside0.mk hb
  have hg : w.heap.size ≤ g := by omega
  clear hd hs hm hc hb h1 h2 h3
  go_wp2_with (first | (go_at_call 6; fail))
  refine (dnew_calls K0 g rfl w1).mono ?_
  rintro e w2 ⟨d, rfl, hd, hdev, hb⟩
  have HB2 := Aside0.mk hb
  have HV := Aside0.mk hdev
  have hgd : g < d := Nat.lt_of_lt_of_le (blk_lt HD.out) hd
  clear hdev hb hd
  go_wp2
  go_ret2
  exact ⟨d, g, _, _, cv, rfl, hg, hgd, HV.out, blk_below HD.out HB2.out, Cuts.move HC.out (fun k _ hk => HB2.out.block k (Nat.lt_trans hk (blk_lt HD.out))), below_step HB.out HB2.out⟩
end Go.Proofs.Ytlgnljhhpheknaa.Dv
