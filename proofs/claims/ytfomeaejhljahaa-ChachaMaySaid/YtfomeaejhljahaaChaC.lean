/- The code's block of a key and a nonce. -/
import Derived.Test.YtfomeaejhljahaaChaB
import Derived.Test.YtfomeaejhljahaaXM
namespace Go.Proofs.Ytfomeaejhljahaa.Cha
open Go.RowKit Go.Proofs.YtfomeaejhljahaaW.PrintWords Go.Proofs.YtfomeaejhljahaaW.PrintLast Go.Proofs.YtfomeaejhljahaaW.PrintMore Go.Proofs.Ytfomeaejhljahaa.XA Go.Proofs.Ytfomeaejhljahaa.XU Go.Proofs.Ytfomeaejhljahaa.XB Go.Proofs.Ytfomeaejhljahaa.XM
set_option linter.unusedVariables false
set_option linter.unusedSimpArgs false
def colL (xs : List Int) : Nat → List Int
  | 0 => xs
  | k + 1 => q4 (colL xs k) k (4 + k) (8 + k) (12 + k)
def dgL (xs : List Int) : Nat → List Int
  | 0 => xs
  | k + 1 => q4 (dgL xs k) k (4 + (k + 1) % 4) (8 + (k + 2) % 4) (12 + (k + 3) % 4)
def rn (xs : List Int) : Nat → List Int
  | 0 => xs
  | j + 1 => dgL (colL (rn xs j) 4) 4
theorem colL_length (xs : List Int) (k : Nat) : (colL xs k).length = xs.length := by
  induction k with
  | zero => rfl
  | succ k ih => rw [colL, q4_length, ih]
theorem dgL_length (xs : List Int) (k : Nat) : (dgL xs k).length = xs.length := by
  induction k with
  | zero => rfl
  | succ k ih => rw [dgL, q4_length, ih]
theorem rn_length (xs : List Int) (k : Nat) : (rn xs k).length = xs.length := by
  induction k with
  | zero => rfl
  | succ k ih => rw [rn, dgL_length, colL_length, ih]
/-- the bytes of the sums of two rows of words -/
def outB (xs fs : List Int) : Nat → List Int
  | 0 => []
  | k + 1 => outB xs fs k ++ [(xs.getD k 0 + fs.getD k 0) % 4294967296 % 256, (xs.getD k 0 + fs.getD k 0) % 4294967296 / 256 % 256, (xs.getD k 0 + fs.getD k 0) % 4294967296 / 65536 % 256, (xs.getD k 0 + fs.getD k 0) % 4294967296 / 16777216 % 256]
theorem outB_length (xs fs : List Int) (k : Nat) : (outB xs fs k).length = 4 * k := by
  induction k with
  | zero => rfl
  | succ k ih => rw [outB, List.length_append, ih]; simp; omega
def blkL (key nonce : ByteArray) (n : Int) : List Int := outB (rn (firstL key nonce n) 10) (firstL key nonce n) 16
def blk (key nonce : ByteArray) (n : Int) : ByteArray := strOfNums (blkL key nonce n)
theorem blk_size (key nonce : ByteArray) (n : Int) : (blk key nonce n).size = 64 := by
  rw [blk, strOfNums_size, blkL, outB_length]
theorem info5 : (Try.prog.info? 5).map (fun i => (i.zero, i.size, i.bytes)) = some (some (.int .u8 0), 1, 1) := by kernel_rfl
theorem four_cells (W : World) (T : TypeId) (a b c d : Value) : ∀ j u, [a, b, c, d][j]? = some u → (W.alloc (.cells #[a, b, c, d] T)).cell? ((⟨W.heap.size, 0, none⟩ : Addr).add j) = some u := by
  intro j u hu
  rw [add_plain, blk_cell (blk_new W _) j]
  simpa using hu
theorem run_index_arr {P : Program} (T E n : Nat) (kd : IntKind) (ws : List Int) (k : Nat) (hu : P.underlying T = some (.array n E)) (hE : (P.info? E).map (·.size) = some 1) (he : P.underlying E = some (.int kd)) (hk : k < n) (hl : ws.length = n) (W : World) :
    (Instr.index T (.agg (arrK kd ws)) (.int .i64 (k : Int))).run P W = .ok (.int kd (ws.getD k 0)) W := by
  obtain ⟨i, hi, hs⟩ := Option.map_eq_some_iff.1 hE
  have hg := arrK_get kd ws k (by omega)
  have h1 : (0 : Int) ≤ k ∧ (k : Int) < n := by omega
  simp [Instr.index, Sem.run_bind, run_underlying hu, asIntOf, h1, sizeOf, typeInfo, hi, hs, part, isAgg, run_underlying he, hg, hk, Result.andThen]
theorem may_true (key nonce : ByteArray) (hk : key.size = 32) (hn : nonce.size = 12) (w : World) : Calls Try.prog 13 #[.string key, .string nonce] w fun e w' => e = .returned (.bool true) ∧ w' = w := by
  have c1 : ((key.size : Int) == 32) = true := by rw [hk]; rfl
  have c2 : ((nonce.size : Int) == 12) = true := by rw [hn]; rfl
  clear hk hn
  go_enter Try.func13, Try.ntmps13
  go_wp2
  go_ret
  exact ⟨rfl, rfl⟩
theorem may_false (key nonce : ByteArray) (h : ¬ (key.size = 32 ∧ nonce.size = 12)) (w : World) : Calls Try.prog 13 #[.string key, .string nonce] w fun e w' => e = .returned (.bool false) ∧ w' = w := by
  by_cases hk : key.size = 32
  · have c1 : ((key.size : Int) == 32) = true := by rw [hk]; rfl
    have c2 : ((nonce.size : Int) == 12) = false := by rw [beq_eq_false_iff_ne]; omega
    clear hk h
    go_enter Try.func13, Try.ntmps13
    go_wp2
    go_ret
    exact ⟨rfl, rfl⟩
  · have c1 : ((key.size : Int) == 32) = false := by rw [beq_eq_false_iff_ne]; omega
    clear hk h
    go_enter Try.func13, Try.ntmps13
    go_wp2
    go_ret
    exact ⟨rfl, rfl⟩
theorem block_none (key nonce : ByteArray) (n : Int) (h : ¬ (key.size = 32 ∧ nonce.size = 12)) (w : World) : Calls Try.prog 7 #[.string key, .string nonce, .int .u32 n] w fun e w' => e = .returned (.string ⟨#[]⟩) ∧ w' = w := by
  go_enter Try.func7, Try.ntmps7
  go_wp2_with (go_at_call 13; with_reducible refine (may_false key nonce h _).mono ?_; rintro e w' ⟨rfl, rfl⟩)
  go_ret
  exact ⟨rfl, rfl⟩
end Go.Proofs.Ytfomeaejhljahaa.Cha
