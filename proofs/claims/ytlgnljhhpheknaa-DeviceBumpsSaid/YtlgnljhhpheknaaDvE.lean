/- A device (New, Key, Register, Counter, Bump) and a disk's Up, Acts, Dead, walked, where no block was written. -/
import Derived.Test.YtlgnljhhpheknaaDvD
namespace Go.Proofs.Ytlgnljhhpheknaa.Dv
open Go.RowKit Go.Proofs.YtlgnljhhpheknaaW.PrintWords Go.Proofs.YtlgnljhhpheknaaW.PrintLast Go.Proofs.YtlgnljhhpheknaaW.PrintMore Go.Proofs.Ytlgnljhhpheknaa.XB Go.Proofs.Ytlgnljhhpheknaa.PDeviceBumps
attribute [local go_sem] max2_int min2_int max_two min_two max_three min_three max_four min_four
set_option linter.unusedVariables false
set_option linter.unusedSimpArgs false
/-- a device's cells -/
def DevC (w : World) (d : Nat) (key reg : ByteArray) (n : Int) (g : Nat) : Prop :=
  w.heap[d]? = some (.cells #[.string key, .string reg, .int .u64 n, .pointer (some ⟨g, 0, none⟩)] 53 (0, 0))
/-- a register of zeros -/
def r0 : ByteArray := ⟨(List.replicate 33 (0 : UInt8)).toArray⟩
section
variable (w : World)
set_option maxHeartbeats 8000000 in
set_option maxRecDepth 100000 in
theorem up_calls (g : Nat) (sv mv rv cv : Value) (a : Int) (dead : Bool) (h : DiskC w g sv mv rv a cv dead) :
    Calls Try.prog 14 #[.pointer (some ⟨g, 0, none⟩)] w fun e w' => e = .returned (.tuple #[]) ∧ DiskC w' g sv mv rv a cv false ∧ Upd (fun k => k = g) w w' := by
  have c5 : w.cell? ⟨g, 5, none⟩ = some (.bool dead) := blk_cell h 5
  have f5 : w.frozen? ⟨g, 5, none⟩ = false := blk_frozen h 5
  have H := Aside0.mk (blk_set h 5 (.bool false))
  clear h
  go_enter Try.func14, Try.ntmps14
  go_wp2
  (first | go_end0 | ((try simp only [Exit.inBlock, Exit.then]); refine bodyPost_ret (results_none rfl _ _ _) rfl ?_))
  exact ⟨rfl, H.out, (Upd.refl (fun k => k = g) w).setCell (p := ⟨g, 5, none⟩) rfl _⟩
set_option maxHeartbeats 8000000 in
set_option maxRecDepth 100000 in
theorem acts_calls (g : Nat) (sv mv rv cv : Value) (a : Int) (dead : Bool) (h : DiskC w g sv mv rv a cv dead) :
    Calls Try.prog 15 #[.pointer (some ⟨g, 0, none⟩)] w fun e w' => e = .returned (.int .i64 a) ∧ w' = w := by
  have c3 : w.cell? ⟨g, 3, none⟩ = some (.int .i64 a) := blk_cell h 3
  clear h
  go_enter Try.func15, Try.ntmps15
  go_wp2
  go_ret
  exact ⟨rfl, rfl⟩
set_option maxHeartbeats 8000000 in
set_option maxRecDepth 100000 in
theorem dead_calls (g : Nat) (sv mv rv cv : Value) (a : Int) (dead : Bool) (h : DiskC w g sv mv rv a cv dead) :
    Calls Try.prog 16 #[.pointer (some ⟨g, 0, none⟩)] w fun e w' => e = .returned (.bool dead) ∧ w' = w := by
  have c5 : w.cell? ⟨g, 5, none⟩ = some (.bool dead) := blk_cell h 5
  clear h
  go_enter Try.func16, Try.ntmps16
  go_wp2
  go_ret
  exact ⟨rfl, rfl⟩
set_option maxHeartbeats 8000000 in
set_option maxRecDepth 100000 in
theorem counter_calls (d g : Nat) (key reg : ByteArray) (n : Int) (h : DevC w d key reg n g) :
    Calls Try.prog 11 #[.pointer (some ⟨d, 0, none⟩)] w fun e w' => e = .returned (.int .u64 n) ∧ w' = w := by
  have c : w.cell? ⟨d, 2, none⟩ = some (.int .u64 n) := blk_cell h 2
  clear h
  go_enter Try.func11, Try.ntmps11
  go_wp2
  go_ret
  exact ⟨rfl, rfl⟩
set_option maxHeartbeats 8000000 in
set_option maxRecDepth 100000 in
theorem register_calls (d g : Nat) (key reg : ByteArray) (n : Int) (h : DevC w d key reg n g) :
    Calls Try.prog 12 #[.pointer (some ⟨d, 0, none⟩)] w fun e w' => e = .returned (.string reg) ∧ w' = w := by
  have c : w.cell? ⟨d, 1, none⟩ = some (.string reg) := blk_cell h 1
  clear h
  go_enter Try.func12, Try.ntmps12
  go_wp2
  go_ret
  exact ⟨rfl, rfl⟩
set_option maxHeartbeats 8000000 in
set_option maxRecDepth 100000 in
theorem key_calls (d g : Nat) (key reg : ByteArray) (n : Int) (h : DevC w d key reg n g) :
    Calls Try.prog 13 #[.pointer (some ⟨d, 0, none⟩)] w fun e w' => e = .returned (.string key) ∧ w' = w := by
  have c : w.cell? ⟨d, 0, none⟩ = some (.string key) := blk_cell h 0
  clear h
  go_enter Try.func13, Try.ntmps13
  go_wp2
  go_ret
  exact ⟨rfl, rfl⟩
set_option maxHeartbeats 8000000 in
set_option maxRecDepth 100000 in
theorem counter_nil : Calls Try.prog 11 #[.pointer none] w fun e w' => e = .returned (.int .u64 0) ∧ w' = w := by
  go_enter Try.func11, Try.ntmps11
  go_wp2
  go_ret
  exact ⟨rfl, rfl⟩
set_option maxHeartbeats 8000000 in
set_option maxRecDepth 100000 in
theorem register_nil : Calls Try.prog 12 #[.pointer none] w fun e w' => e = .returned (.string ⟨#[]⟩) ∧ w' = w := by
  go_enter Try.func12, Try.ntmps12
  go_wp2
  go_ret
  exact ⟨rfl, rfl⟩
set_option maxHeartbeats 8000000 in
set_option maxRecDepth 100000 in
theorem key_nil : Calls Try.prog 13 #[.pointer none] w fun e w' => e = .returned (.string ⟨#[]⟩) ∧ w' = w := by
  go_enter Try.func13, Try.ntmps13
  go_wp2
  go_ret
  exact ⟨rfl, rfl⟩
set_option maxHeartbeats 8000000 in
set_option maxRecDepth 100000 in
theorem bump_nil (r : ByteArray) : Calls Try.prog 9 #[.pointer none, .string r] w fun e w' => e = .returned (.int .i64 1) ∧ w' = w := by
  go_enter Try.func9, Try.ntmps9
  go_wp2
  go_ret
  exact ⟨rfl, rfl⟩
set_option maxHeartbeats 8000000 in
set_option maxRecDepth 100000 in
theorem bump_bad (p : Option Addr) (r : ByteArray) (hr : r.size ≠ 33) : Calls Try.prog 9 #[.pointer p, .string r] w fun e w' => e = .returned (.int .i64 1) ∧ w' = w := by
  cases p with
  | none => exact bump_nil w r
  | some p =>
    have c0 : decide ((r.size : Int) = 33) = false := decide_eq_false (by omega)
    have c1 : decide (r.size = 33) = false := decide_eq_false hr
    go_enter Try.func9, Try.ntmps9
    go_wp2
    go_ret
    exact ⟨rfl, rfl⟩
set_option maxHeartbeats 8000000 in
set_option maxRecDepth 100000 in
theorem bump_dead (d g : Nat) (key reg r : ByteArray) (n a : Int) (sv mv rv cv : Value) (hr : r.size = 33) (h : DevC w d key reg n g) (hd : DiskC w g sv mv rv a cv true) :
    Calls Try.prog 9 #[.pointer (some ⟨d, 0, none⟩), .string r] w fun e w' => e = .returned (.int .i64 7) ∧ w' = w := by
  have c0 : decide ((r.size : Int) = 33) = true := decide_eq_true (by omega)
  have c1 : decide (r.size = 33) = true := decide_eq_true hr
  have c3 : w.cell? ⟨d, 3, none⟩ = some (.pointer (some ⟨g, 0, none⟩)) := blk_cell h 3
  have HD := Aside0.mk hd
  clear h hd
  go_enter Try.func9, Try.ntmps9
  go_wp2_with (first | (go_at_call 20; fail))
  refine (act_dead g sv mv rv cv a w HD.out).mono ?_
  rintro e w1 ⟨rfl, rfl⟩
  go_wp2
  go_ret
  exact ⟨rfl, rfl⟩
set_option maxHeartbeats 8000000 in
set_option maxRecDepth 100000 in
theorem bump_calls (d g : Nat) (key reg r : ByteArray) (n a : Int) (sv mv cv : Value) (L : List S48) (lo hi : Nat) (hr : r.size = 33) (h : DevC w d key reg n g) (hd : DiskC w g sv mv (.slice none 0 0) a cv false) (hc : Cuts w cv L lo hi)
    (hg : hi ≤ g) (hgd : g ≠ d) (a0 : 0 ≤ a) (a1 : a < 4611686018427387904) (n0 : 0 ≤ n) (n1 : n < 4611686018427387904) :
    Calls Try.prog 9 #[.pointer (some ⟨d, 0, none⟩), .string r] w fun e w' => e = .returned (.int .i64 (errP (hits L (a + 1)))) ∧ DevC w' d key (if hits L (a + 1) then reg else r) (if hits L (a + 1) then n else n + 1) g ∧
      (∃ mv', DiskC w' g sv mv' (.slice none 0 0) (a + 1) cv (hits L (a + 1))) ∧ Upd (fun k => k = g ∨ k = d) w w' := by
  have c0 : decide ((r.size : Int) = 33) = true := decide_eq_true (by omega)
  have c1 : decide (r.size = 33) = true := decide_eq_true hr
  have c3 : w.cell? ⟨d, 3, none⟩ = some (.pointer (some ⟨g, 0, none⟩)) := blk_cell h 3
  have wn : IntKind.u64.wrap (n + 1) = n + 1 := wu64s (by omega) (by omega)
  have HD := Aside0.mk hd
  have HC := Aside0.mk hc
  have H := Aside0.mk h
  clear h hd hc
  obtain ⟨b, hb⟩ : ∃ b, hits L (a + 1) = b := ⟨_, rfl⟩
  have HB := Aside0.mk hb
  rw [hb]
  clear hb
  go_enter Try.func9, Try.ntmps9
  go_wp2_with (first | (go_at_call 20; fail))
  refine (act_calls g sv mv cv L lo hi a w HD.out HC.out hg a0 a1).mono ?_
  rw [HB.out]
  rintro e w1 ⟨mv', rfl, hd1, hu1⟩
  have h1 := hu1.blk H.out (fun e => hgd e.symm)
  have k2 : w1.cell? ⟨d, 2, none⟩ = some (.int .u64 n) := blk_cell h1 2
  have f2 : w1.frozen? ⟨d, 2, none⟩ = false := blk_frozen h1 2
  have h2 := blk_set h1 2 (.int .u64 (n + 1))
  have k1 : (w1.setCell ⟨d, 2, none⟩ (.int .u64 (n + 1))).cell? ⟨d, 1, none⟩ = some (.string reg) := blk_cell h2 1
  have f1 : (w1.setCell ⟨d, 2, none⟩ (.int .u64 (n + 1))).frozen? ⟨d, 1, none⟩ = false := blk_frozen h2 1
  have H2 := Aside0.mk (blk_set h2 1 (.string r))
  have H1 := Aside0.mk h1
  have HD1 := Aside0.mk hd1
  have HU1 := Aside0.mk (hu1.mono (fun k hk => (Or.inl hk : k = g ∨ k = d)))
  clear h1 h2 hd1 hu1
  cases b with
  | true =>
    go_wp2
    go_ret
    exact ⟨rfl, H1.out, ⟨mv', HD1.out⟩, HU1.out⟩
  | false =>
    go_wp2
    go_ret
    refine ⟨rfl, H2.out, ⟨mv', ?_⟩, (HU1.out.setCell (p := ⟨d, 2, none⟩) (.inr rfl) _).setCell (p := ⟨d, 1, none⟩) (.inr rfl) _⟩
    exact (Below.heap_setCell _ _ _ _ hgd).trans ((Below.heap_setCell _ _ _ _ hgd).trans HD1.out)
set_option maxHeartbeats 8000000 in
set_option maxRecDepth 100000 in
theorem dnew_bad (key : ByteArray) (p : Option Addr) (h : key.size ≠ 32 ∨ p = none) :
    Calls Try.prog 6 #[.string key, .pointer p] w fun e w' => e = .returned (.tuple #[.pointer none, .int .i64 1]) ∧ w' = w := by
  by_cases hk : key.size = 32
  · obtain rfl : p = none := by rcases h with h | h; exact absurd hk h; exact h
    have c0 : decide ((key.size : Int) = 32) = true := decide_eq_true (by omega)
    have c1 : decide (key.size = 32) = true := decide_eq_true hk
    go_enter Try.func6, Try.ntmps6
    go_wp2
    go_ret2
    exact ⟨rfl, rfl⟩
  · have c0 : decide ((key.size : Int) = 32) = false := decide_eq_false (by omega)
    have c1 : decide (key.size = 32) = false := decide_eq_false hk
    go_enter Try.func6, Try.ntmps6
    go_wp2
    go_ret2
    exact ⟨rfl, rfl⟩
end
end Go.Proofs.Ytlgnljhhpheknaa.Dv
