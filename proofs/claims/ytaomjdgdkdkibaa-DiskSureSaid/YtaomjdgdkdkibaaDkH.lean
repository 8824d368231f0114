/- A disk made, awake; what no disk says; the law DiskNone's own function. -/
import Derived.Test.YtaomjdgdkdkibaaDkG
namespace Go.Proofs.Ytaomjdgdkdkibaa.Dk
open Go.RowKit Go.Proofs.YtaomjdgdkdkibaaW.PrintWords Go.Proofs.YtaomjdgdkdkibaaW.PrintLast Go.Proofs.YtaomjdgdkdkibaaW.PrintMore Go.Proofs.Ytaomjdgdkdkibaa.XB Go.Proofs.Ytaomjdgdkdkibaa.PDiskNone
attribute [local go_sem] max2_int min2_int max_two min_two max_three min_three max_four min_four
set_option linter.unusedVariables false
set_option linter.unusedSimpArgs false
/-- a block of one byte -/
def bk (c : Int) : ByteArray := strOfNums (List.replicate 512 c)
theorem bk_size (c : Int) : (bk c).size = 512 := by rw [bk, strOfNums_size]; exact List.length_replicate
theorem bk_zero : bk 0 = z0 := by kernel_rfl
theorem set_rep (c : Int) (i m : Nat) : (List.replicate i c ++ List.replicate (m + 1) 0).set i c = List.replicate (i + 1) c ++ List.replicate m (0 : Int) := by
  rw [List.set_append_right _ _ (by simp), List.length_replicate, Nat.sub_self, List.replicate_succ (n := m), List.set_cons_zero, List.replicate_succ' (n := i), List.append_assoc]
  rfl
theorem block_l (c : Int) : ∀ m i : Nat, i + m = 512 → lodestonelaw07_block.l0 (m + 1) c (List.replicate i c ++ List.replicate m 0) (i : Int) = some (bk c)
  | 0, i, h => by
    obtain rfl : i = 512 := by omega
    have hl : ((List.replicate 512 c ++ List.replicate 0 (0 : Int)).length : Int) = 512 := by rw [List.length_append, List.length_replicate, List.length_replicate]; rfl
    show (if ((512 : Nat) : Int) < ((List.replicate 512 c ++ List.replicate 0 (0 : Int)).length : Int) then _ else some (strOfNums (List.replicate 512 c ++ List.replicate 0 0))) = some (bk c)
    rw [hl, if_neg (by decide), List.replicate_zero, List.append_nil]
    rfl
  | m + 1, i, h => by
    have hl : ((List.replicate i c ++ List.replicate (m + 1) (0 : Int)).length : Int) = 512 := by simp; omega
    show (if (i : Int) < ((List.replicate i c ++ List.replicate (m + 1) (0 : Int)).length : Int) then (if (0 : Int) ≤ (i : Int) then (lodestonelaw07_block.l0 (m + 1) c ((List.replicate i c ++ List.replicate (m + 1) 0).set ((i : Int)).toNat c) (wrap64 ((i : Int) + 1))) else none) else some (strOfNums (List.replicate i c ++ List.replicate (m + 1) 0))) = some (bk c)
    rw [hl, if_pos (by omega), if_pos (by omega), Int.toNat_natCast, set_rep, w64 (by omega) (by omega)]
    exact block_l c m (i + 1) (by omega)
theorem block_f (c : Int) : lodestonelaw07_block.f 513 c = some (bk c) := by
  unfold lodestonelaw07_block.f
  rw [if_pos (by decide)]
  exact block_l c 512 0 rfl
theorem block_calls (c : Int) (w : World) : Calls Try.prog 8 #[.int .u8 c] w fun e w' => e = .returned (.string (bk c)) ∧ Below w.heap.size w w' := lodestonelaw07_block.calls 513 c (bk c) w (block_f c)
theorem nil48 (w : World) : Kd.C k48 w none 0 [] := ⟨rfl, by decide, fun h => absurd h (by decide)⟩
theorem strs_rep (z : ByteArray) (n : Nat) : (rep z n n).toArray = strs (List.replicate n z) := by simp [rep, strs]
theorem new_disk (n : Nat) (h1 : 1 ≤ n) (hn : n ≤ 4096) (w : World) :
    Calls Try.prog 5 #[.int .i64 n, .slice none 0 0] w fun e w' => ∃ p A c, e = .returned (.tuple #[.pointer (some ⟨p.g, 0, none⟩), .int .i64 0]) ∧ Disk w' p n (List.replicate n z0) 0 (fun _ => none) (.slice none 0 0) [] 0 A c false ∧ p.B = w.heap.size ∧ Below w.heap.size w w' := by
  refine (new_calls n h1 hn none 0 0 [] w (nil48 w) (by decide)).mono ?_
  rintro e w' ⟨g, s, mv, cv, rfl, q1, q2, q3, hd, hs, hm, ⟨A, c, rfl, _, _⟩, hb⟩
  rw [strs_rep] at hs
  exact ⟨⟨g, s, mv, w.heap.size⟩, A, c, rfl, ⟨hd, hs, List.length_replicate, hn, IsM.empty hm, Kd.R_nil _ _ _ _ _, Nat.ne_of_lt (Nat.lt_trans q2 q3), Nat.ne_of_lt q3, Nat.ne_of_lt q2, Nat.le_trans q1 (Nat.le_of_lt (Nat.lt_trans q2 q3)), q1, Nat.le_trans q1 (Nat.le_of_lt q2)⟩, rfl, hb⟩
set_option maxHeartbeats 8000000 in
set_option maxRecDepth 100000 in
theorem plan_nil (k F : Int) (w : World) : Calls Try.prog 13 #[.pointer none, .int .i64 k, .int .u64 F] w fun e w' => e = .returned (.tuple #[]) ∧ w' = w := by
  go_enter Try.func13, Try.ntmps13
  go_wp2
  (first | go_end0 | ((try simp only [Exit.inBlock, Exit.then]); refine bodyPost_ret (results_none rfl _ _ _) rfl ?_))
  exact ⟨rfl, rfl⟩
set_option maxHeartbeats 8000000 in
set_option maxRecDepth 100000 in
theorem flush_nil (w : World) : Calls Try.prog 9 #[.pointer none] w fun e w' => e = .returned (.int .i64 7) ∧ w' = w := by
  go_enter Try.func9, Try.ntmps9
  go_wp2_with (first | (go_at_call 17; fail))
  refine (act_nil _).mono ?_
  rintro e w1 ⟨rfl, rfl⟩
  go_wp2
  go_ret
  exact ⟨rfl, rfl⟩
set_option maxHeartbeats 8000000 in
set_option maxRecDepth 100000 in
theorem poke_nil (k : Int) (s : ByteArray) (w : World) : Calls Try.prog 18 #[.pointer none, .int .i64 k, .string s] w fun e w' => e = .returned (.bool false) ∧ w' = w := by
  go_enter Try.func18, Try.ntmps18
  go_wp2_with (first | (go_at_call 23; fail))
  refine (has_nil k _).mono ?_
  rintro e w1 ⟨rfl, rfl⟩
  go_wp2
  go_ret
  exact ⟨rfl, rfl⟩
set_option maxHeartbeats 8000000 in
set_option maxRecDepth 100000 in
theorem image_nil (w : World) : Calls Try.prog 19 #[.pointer none] w fun e w' => e = .returned (.slice none 0 0) ∧ w' = w := by
  go_enter Try.func19, Try.ntmps19
  go_wp2
  go_ret
  exact ⟨rfl, rfl⟩
theorem full_rep (n : Nat) : Full (List.replicate n z0) := by
  intro i hi
  rw [List.length_replicate] at hi
  rw [List.getD_eq_getElem?_getD, List.getElem?_replicate, if_pos hi, ← bk_zero]
  exact bk_size 0
set_option maxHeartbeats 8000000 in
set_option maxRecDepth 100000 in
theorem awake_calls (w : World) : Calls Try.prog 6 #[] w fun e w' => e = .returned (.bool true) ∧ Below w.heap.size w w' := by
  go_enter Try.func6, Try.ntmps6
  go_wp2_with (first | (go_at_call 5; fail))
  refine (new_disk 2 (by decide) (by decide) w).mono ?_
  rintro e w1 ⟨p, A, c, rfl, hd, hB, hb⟩
  have HD := Aside0.mk hd
  have HB := Aside0.mk hb
  have HP := Aside0.mk hB
  clear hd hb hB
  go_wp2_with (first | (go_at_call 8; fail))
  refine (block_calls 97 w1).mono ?_
  rintro e w2 ⟨rfl, hb⟩
  have HD2 := Aside0.mk (HD.out.below hb)
  have HB2 := Aside0.mk (below_step HB.out hb)
  clear hb HD HB
  go_wp2_with (first | (go_at_call 7; fail))
  refine (write_calls HD2.out 0 (by decide) (bk 97) (bk_size 97) (by decide) (by decide) (by decide) (by decide)).mono ?_
  rintro e w3 ⟨rfl, ⟨rv, hd⟩, hb⟩
  rw [HP.out] at hb
  have HD3 := Aside0.mk (show Disk w3 p 2 (List.replicate 2 z0) 1 (put (fun _ => none) 0 (bk 97)) rv [0] 1 A c false from hd)
  have HB3 := Aside0.mk (HB2.out.trans hb)
  clear hd hb HD2 HB2
  go_wp2_with (first | (go_at_call 12; fail))
  refine (read_calls HD3.out 0 (by decide)).mono ?_
  rintro e w4 ⟨rfl, e7⟩
  have e8 := e7.symm
  clear e7
  subst e8
  rw [show ((put (fun _ => none) 0 (bk 97)) ((0 : Nat) : Int)).getD ((List.replicate 2 z0).getD 0 ⟨#[]⟩) = bk 97 from rfl]
  go_wp2_with (first | (go_at_call 10; fail))
  refine (fail_calls HD3.out ?hx (full_rep 2) (by decide) 0 (by decide)).mono ?_
  case hx =>
    intro x hx
    obtain rfl := List.mem_singleton.mp hx
    exact ⟨0, rfl, by decide, bk 97, rfl, bk_size 97⟩
  rintro e w5 ⟨rfl, ⟨m', sl', hd, hl⟩, hb⟩
  rw [HP.out] at hb
  have hz := hl.zero rfl
  subst hz
  have HD5 := Aside0.mk hd
  have HB5 := Aside0.mk (HB3.out.trans hb)
  clear hd hb hl HD3 HB3
  go_wp2_with (first | (go_at_call 11; fail))
  refine (up_calls HD5.out).mono ?_
  rintro e w6 ⟨rfl, hd, hb⟩
  have HD6 := Aside0.mk hd
  have HB6 := Aside0.mk (HB5.out.trans (show Below w.heap.size w5 w6 from HP.out ▸ hb))
  clear hd hb HD5 HB5
  go_wp2_with (first | (go_at_call 12; fail))
  refine (read_calls HD6.out 0 (by decide)).mono ?_
  rintro e w7 ⟨rfl, e7⟩
  have e8 := e7.symm
  clear e7
  subst e8
  rw [show ((fun _ => none : Int → Option ByteArray) ((0 : Nat) : Int)).getD ((List.replicate 2 z0).getD 0 ⟨#[]⟩) = bk 0 from bk_zero.symm]
  go_wp2_with (first | (go_at_call 8; fail))
  refine (block_calls 97 w6).mono ?_
  rintro e w8 ⟨rfl, hb⟩
  have HB8 := Aside0.mk (below_step HB6.out hb)
  clear hb HB6
  go_wp2_with (first | (go_at_call 8; fail))
  refine (block_calls 0 w8).mono ?_
  rintro e w9 ⟨rfl, hb⟩
  have HB9 := Aside0.mk (below_step HB8.out hb)
  clear hb HB8
  go_wp2
  go_ret
  exact ⟨by simp, HB9.out⟩
end Go.Proofs.Ytaomjdgdkdkibaa.Dk
